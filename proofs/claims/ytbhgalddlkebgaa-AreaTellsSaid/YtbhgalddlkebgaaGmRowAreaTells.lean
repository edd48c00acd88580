/- Whatever disk, place and text come in, AreaTells answers true and leaves them as they were; there is no condition. -/
import Derived.Test.YtbhgalddlkebgaaRows
import Derived.Test.YtbhgalddlkebgaaGmPo
import Derived.Test.YtbhgalddlkebgaaGmHead
import Derived.ProofKit
import Derived.SizedLaws
namespace Go.Proofs.Ytbhgalddlkebgaa.areaTells
open Gm
theorem own : ownKnob Try.prog.godebug = none := by kernel_rfl
theorem laid : laidOutB Try.prog = true := by kernel_rfl
theorem reads : (Try.f19.params.toList.all fun t => Try.prog.readableRec t && decide (t < Try.prog.types.size)) = true := by kernel_rfl
theorem types : tysIs Try.prog [(.st 1), (.int .i64), .str] Try.f19.params.toList = true := by kernel_rfl
theorem answer : Try.f19.resultTypes = #[4] := by kernel_rfl
theorem abool : Try.prog.underlying 4 = some .bool := by kernel_rfl
theorem same : E.P = Try.prog := rfl
theorem law (x : Dens [(.st 1), (.int .i64), .str]) (hx : WfAll [(.st 1), (.int .i64), .str] x) : law09_AreaTells.F x.1 x.2.1 x.2.2.1 (fun r => r = true) := law09_AreaTells_true hx.1.2.2
theorem fits : ∀ (H : Type) (ds : List (DataW H)), ds.length = 3 → Rows.areaTellsSpec.fn H ds = ⟨[.lit (.bool true)], ds, []⟩ := fun _ ds h => match ds, h with | [_, _, _], _ => rfl
set_option maxRecDepth 100000 in
theorem runs {H : Type} {encH : TypeId × Value → H} (W : World) (base : Nat) (args : Array Value) (ds gs : List (DataW H)) (before : List MemPlace)
    (hok : ∀ (j : Nat) t v, Try.f19.params[j]? = some t → args[j]? = some v → Value.okWide Try.prog W .any base t v)
    (hW : DataW.Whole encH Try.prog Try.f19.params.toList Rows.areaTellsSpec.vars false W args.toList ds gs before)
    (hw : (DataW.weightsEach Try.prog (Try.f19.params.toList ++ Rows.areaTellsSpec.plain.varTypes Try.prog) (ds ++ gs)).all (· ≤ reachBytes) = true) :
    Calls Try.prog 19 args W fun e W' => ∃ v, e = .returned v ∧ Rows.areaTellsSpec.post encH Try.prog Try.f19 false true false false W args v W' :=
  law_contract (E := E) (P := Try.prog) (us := [(.st 1), (.int .i64), .str]) (F := fun x => law09_AreaTells.F x.1 x.2.1 x.2.2.1) (tb := 4) same law09_AreaTells.ground law09_AreaTells.loops law09_AreaTells.eq law laid reads types rfl answer abool fits W base args ds gs before hok hW hw
set_option maxRecDepth 100000 in
theorem lifted (os : Os) (started : os.Started) (H : Type) (enc : TypeId × Value → H) :
    ReturnsInHanded {} Try.checked os 19 .any (Rows.areaTellsSpec.pre6 enc Try.prog Try.f19 Rows.areaTellsRow.domain false) (Rows.areaTellsSpec.post enc Try.prog Try.f19 false true false false) := by
  refine returnsInHanded_of_change_sized (C := Try.checked) own started (by kernel_rfl) Try.func19
    (ChangeSpec.witness6 (enc := enc) (C := Try.checked) false ⟨#[], #[.agg #[.slice none 0 0, .slice none 0 0, .int .i64 0, .bool false], .int .i64 0, .string ByteArray.empty], []⟩ 8 (by kernel_rfl) (by kernel_rfl) (by kernel_rfl) (by kernel_rfl)) ?_
  intro W base args ds gs before hval0 hW hcnd hsz0 _
  have hsz : (DataW.weightsEach Try.prog (Try.f19.params.toList ++ Rows.areaTellsSpec.plain.varTypes Try.prog) (ds ++ gs)).all (· ≤ reachBytes) = true := hsz0
  have hval : ∀ (j : Nat) t v, Try.f19.params[j]? = some t → args[j]? = some v → Value.okWide Try.prog W .any base t v := hval0
  clear hval0 hsz0 hcnd
  exact runs W base args ds gs before hval hW hsz
theorem facts : joinedFacts Try.prog 19 Try.f19 Rows.areaTellsSpec Rows.areaTellsRow = true := by
  unfold joinedFacts
  rw [Gm.Head.enter, Gm.Head.final, Gm.Head.made]
  kernel_rfl
theorem over : Rows.areaTellsRow.holds Try.pinned (OpenSpec.ofChange Rows.areaTellsSpec) :=
  OpenClaim.holds_of_wide 19 Try.f19 rfl rfl rfl rfl rfl rfl rfl ⟨rfl, rfl, rfl, rfl, rfl⟩ rfl rfl rfl rfl rfl (by kernel_rfl) Try.func19 facts
    (of_decide_eq_true (by kernel_rfl)) (by unfold Func.isWrapper; first | (rw [if_pos (by decide +kernel)]; kernel_rfl) | (rw [if_neg (by decide +kernel)]; exact ⟨rfl, rfl⟩))
    (fun os started H enc _ => lifted os started H enc)
theorem proved : Rows.AreaTellsSaid := over
end Go.Proofs.Ytbhgalddlkebgaa.areaTells
namespace Go.Proofs.Ytbhgalddlkebgaa
/-- The row, under a short name. -/
theorem areaTells_holds : Rows.AreaTellsSaid := areaTells.proved
#print axioms areaTells_holds
end Go.Proofs.Ytbhgalddlkebgaa
