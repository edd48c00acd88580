/- From a law's equation to its row. -/
import Derived.Test.YtbhgalddlkebgaaGmRa
namespace Gm
open Go Go.RowKit

theorem callable_of {P : Program} {f : FuncId} (hn : NoNum P) (h : ((P.funcs[f]?).bind (·.body)).isSome = true) : Callable P f := by
  cases hf : P.funcs[f]? with
  | none => rw [hf] at h; cases h
  | some fn =>
    rw [hf] at h
    cases hb : fn.body with
    | none => simp [hb] at h
    | some c => exact callable hn hf hb

/-- What is done with an answer. -/
def ansK {β : Type} (cod : Cod β) (K : β → Prop) (v : AV) : Prop := match cod.dec v with
  | some r => K r
  | none => False

theorem mkSound {E : Env} {tab : Tab} {lt : Nat → Option LSpec} {d : Nat} {f : FuncId} {β : Type} {ts : List Ty} {cod : Cod β} {F : Dens ts → (β → Prop) → Prop} (g : Ground E tab) (hl : LoopsOk E tab lt d f)
    (hcall : ((E.P.funcs[f]?).bind (·.body)).isSome = true) (h : ∀ x K, apure E tab lt d f (encA ts x) (ansK cod K) = F x K) : EntrySound E.P f (mkEntry ts cod F) :=
  mkEntry_sound g hl (callable_of g.num hcall) (fun x K k => by have e := h x K; rw [← e] at k; exact k)

section
variable {H : Type} {encH : TypeId × Value → H} {P : Program}

theorem trodAll_below {W W' : World} (hl : laidOutB P = true) (hb : Below W.heap.size W W') : ∀ (ts : List TypeId) (vs : List Value) (ds : List (DataW H)) (ps : List MemPlace), (ts.all fun t => P.readableRec t && decide (t < P.types.size)) = true →
    DataW.TrodAll encH P W 0 (fun _ => true) true ts vs ds ps → (∀ x ∈ ps, x.block < W.heap.size) →
    DataW.TrodAll encH P W' 0 (fun b => decide (b < W.heap.size)) true ts vs ds ps ∧ ds.length = ts.length
  | [], vs, ds, ps, _, h, _ => by
    obtain ⟨rfl, rfl, rfl⟩ := ChangeShapes.trodAll_nil h
    exact ⟨rfl, rfl⟩
  | t :: ts, vs, ds, ps, hr, h, hlt => by
    obtain ⟨v, vs, d, ds, p, q, rfl, rfl, rfl, h1, h2⟩ := ChangeShapes.trodAll_cons h
    simp only [List.all_cons, Bool.and_eq_true, decide_eq_true_eq] at hr
    obtain ⟨⟨r1, r2⟩, r3⟩ := hr
    obtain ⟨h3, h4⟩ := trodAll_below hl hb ts vs ds q (by simpa using r3) h2 (fun x hx => hlt x (by simp [hx]))
    exact ⟨⟨p, q, Below.trod hl r1 r2 h1 hb (fun x hx => hlt x (by simp [hx])), h3, rfl⟩, by simp [h4]⟩
end

/-- A law that answers true at every typed argument. -/
theorem law_calls {E : Env} {tab : Tab} {lt : Nat → Option LSpec} {d : Nat} {f : FuncId} {us : List Ty} {F : Dens us → (Bool → Prop) → Prop} (g : Ground E tab) (hl : LoopsOk E tab lt d f)
    (heq : ∀ (x : Dens us) (K : Bool → Prop), apure E tab lt d f (encA us x) (ansK (cTy .bool) K) = F x K)
    {W : World} {args : Array Value} {x : Dens us} (hx : F x fun r => r = true) (hlen : (encA us x).length = args.size)
    (hr : ∀ (i : Nat) a v, (encA us x)[i]? = some a → args[i]? = some v → Rv (fresh { w := W, F := fun B _ => B < W.heap.size, G := fun _ => ⟨none, 0, 0, 0⟩, N := 0 }) a v) :
    Calls E.P f args W fun e W' => e = .returned (.bool true) ∧ Below W.heap.size W W' := by
  have h := heq x fun r => r = true
  rw [← h] at hx
  refine ((apure_calls g hl hx).2 { w := W, F := fun B _ => B < W.heap.size, G := fun _ => ⟨none, 0, 0, 0⟩, N := 0 } args (fun B o h => h) ⟨hlen, hr⟩).mono ?_
  rintro e w' ⟨v, a, T, rfl, rfl, h1, h2, h3⟩
  have ha : a = .bool true := by
    unfold ansK at h2
    split at h2
    · rename_i r hd
      subst h2
      cases a <;> first | (cases hd; rfl) | cases hd
    · exact h2.elim
  subst ha
  obtain ⟨U, hU, hX, _⟩ := h3 (.bool true) (.bool _) (fun _ _ h => h)
  have hv : v = .bool true := by cases h1; rfl
  subst hv
  refine ⟨rfl, ?_⟩
  rw [← hU]
  exact ⟨hX.os, hX.tape, hX.output, hX.size, fun k hk => hX.old k hk⟩

theorem law_contract {E : Env} {P : Program} {tab : Tab} {lt : Nat → Option LSpec} {d : Nat} {f : FuncId} {fn : Func} {us : List Ty} {F : Dens us → (Bool → Prop) → Prop} {s : ChangeSpec} {tb : TypeId} {apart fresh handsOn : Bool} (hP : E.P = P) (g : Ground E tab) (hl : LoopsOk E tab lt d f)
    (heq : ∀ (x : Dens us) (K : Bool → Prop), apure E tab lt d f (encA us x) (ansK (cTy .bool) K) = F x K)
    (hF : ∀ x, WfAll us x → F x fun r => r = true)
    (laid : laidOutB P = true) (hread : (fn.params.toList.all fun t => P.readableRec t && decide (t < P.types.size)) = true) (hty : tysIs P us fn.params.toList = true)
    (hvars : s.vars = []) (hres : fn.resultTypes = #[tb]) (hb : P.underlying tb = some .bool)
    (hs : ∀ (H : Type) (ds : List (DataW H)), ds.length = us.length → s.fn H ds = ⟨[.lit (.bool true)], ds, []⟩)
    {H : Type} {encH : TypeId × Value → H} (W : World) (base : Nat) (args : Array Value) (ds gs : List (DataW H)) (before : List MemPlace)
    (hok : ∀ (j : Nat) t v, fn.params[j]? = some t → args[j]? = some v → Value.okWide P W .any base t v)
    (hW : DataW.Whole encH P fn.params.toList s.vars apart W args.toList ds gs before)
    (hw : (DataW.weightsEach P (fn.params.toList ++ s.plain.varTypes P) (ds ++ gs)).all (· ≤ reachBytes) = true) :
    Calls P f args W fun e W' => ∃ v, e = .returned v ∧ s.post encH P fn apart fresh handsOn false W args v W' := by
  subst hP
  have hW0 := hW
  obtain ⟨p, q, hA, hV, rfl, hfz, hap⟩ := hW
  rw [hvars] at hV
  obtain ⟨rfl, rfl⟩ := ChangeShapes.trodVars_none hV
  have hlt : ∀ x ∈ p, x.block < W.heap.size := fun x hx => hW0.lt x (by simp [hx])
  have hvt : s.plain.varTypes E.P = [] := by
    simp [ChangeSpec.plain, DataSpec.varTypes, hvars]
  rw [hvt, List.append_nil, List.append_nil] at hw
  obtain ⟨x, hx, hlen, hr⟩ := open_all (S := Gm.fresh { w := W, F := fun B _ => B < W.heap.size, G := fun _ => ⟨none, 0, 0, 0⟩, N := 0 }) (fun B o h => h) us fn.params.toList args.toList ds p hty hA
    (fun n hn => of_decide_eq_true (List.all_eq_true.1 hw n hn)) (b0 := base) (fun j t v ht hv => hok j t v (by simpa using ht) (by simpa using hv))
  have hul : us.length = fn.params.toList.length := by
    clear hread hA hok hw hr hlen
    revert hty
    generalize fn.params.toList = ts
    clear hx x hW0 hF heq hs hl hlt hfz hap F
    induction us generalizing ts with
    | nil => intro h; cases ts with
      | nil => rfl
      | cons => cases h
    | cons u us ih => intro h; cases ts with
      | nil => cases h
      | cons t ts =>
        simp only [tysIs, Bool.and_eq_true] at h
        simp [ih ts h.2.2.2]
  refine (law_calls g hl heq (hF x hx) (by simpa using hlen) (fun i a v ha hv => hr i a v ha (by simpa using hv))).mono ?_
  rintro e W' ⟨rfl, hbel⟩
  obtain ⟨h1, h2⟩ := trodAll_below laid hbel fn.params.toList args.toList ds p hread hA hlt
  refine ⟨_, rfl, ds, [], _, [], p, [], hW0, ?_, ?_, ?_, hbel.frame _, fun h => by cases h⟩
  · rw [List.append_nil, hs H ds (by omega), hres]
    exact ChangeShapes.trodAll_mk1 (shut_bool hb true)
  · rw [List.append_nil, hs H ds (by omega)]
    exact h1
  · rw [List.append_nil, hs H ds (by omega), hvars]
    rfl
end Gm
