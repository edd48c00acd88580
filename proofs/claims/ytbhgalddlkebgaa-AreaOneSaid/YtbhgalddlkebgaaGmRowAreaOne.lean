/- Whatever number, writes and flags come in, AreaOne answers true and leaves them as they were; there is no condition. -/
import Derived.Test.YtbhgalddlkebgaaRows
import Derived.Test.YtbhgalddlkebgaaGmPo
import Derived.Test.YtbhgalddlkebgaaGmHead
import Derived.ProofKit
import Derived.SizedLaws
namespace Go.Proofs.Ytbhgalddlkebgaa.areaOne
open Gm
theorem own : ownKnob Try.prog.godebug = none := by kernel_rfl
theorem laid : laidOutB Try.prog = true := by kernel_rfl
theorem reads : (Try.f21.params.toList.all fun t => Try.prog.readableRec t && decide (t < Try.prog.types.size)) = true := by kernel_rfl
theorem types : tysIs Try.prog [(.int .u8), (.slice (.st 0)), (.slice .bool)] Try.f21.params.toList = true := by kernel_rfl
theorem answer : Try.f21.resultTypes = #[4] := by kernel_rfl
theorem abool : Try.prog.underlying 4 = some .bool := by kernel_rfl
theorem same : E.P = Try.prog := rfl
theorem law (x : Dens [(.int .u8), (.slice (.st 0)), (.slice .bool)]) (hx : WfAll [(.int .u8), (.slice (.st 0)), (.slice .bool)] x) : law09_AreaOne.F x.1 x.2.1 x.2.2.1 (fun r => r = true) := law09_AreaOne_true hx.1
theorem fits : ∀ (H : Type) (ds : List (DataW H)), ds.length = 3 → Rows.areaOneSpec.fn H ds = ⟨[.lit (.bool true)], ds, []⟩ := fun _ ds h => match ds, h with | [_, _, _], _ => rfl
set_option maxRecDepth 100000 in
theorem runs {H : Type} {encH : TypeId × Value → H} (W : World) (base : Nat) (args : Array Value) (ds gs : List (DataW H)) (before : List MemPlace)
    (hok : ∀ (j : Nat) t v, Try.f21.params[j]? = some t → args[j]? = some v → Value.okWide Try.prog W .any base t v)
    (hW : DataW.Whole encH Try.prog Try.f21.params.toList Rows.areaOneSpec.vars false W args.toList ds gs before)
    (hw : (DataW.weightsEach Try.prog (Try.f21.params.toList ++ Rows.areaOneSpec.plain.varTypes Try.prog) (ds ++ gs)).all (· ≤ reachBytes) = true) :
    Calls Try.prog 21 args W fun e W' => ∃ v, e = .returned v ∧ Rows.areaOneSpec.post encH Try.prog Try.f21 false true false false W args v W' :=
  law_contract (E := E) (P := Try.prog) (us := [(.int .u8), (.slice (.st 0)), (.slice .bool)]) (F := fun x => law09_AreaOne.F x.1 x.2.1 x.2.2.1) (tb := 4) same law09_AreaOne.ground law09_AreaOne.loops law09_AreaOne.eq law laid reads types rfl answer abool fits W base args ds gs before hok hW hw
set_option maxRecDepth 100000 in
theorem lifted (os : Os) (started : os.Started) (H : Type) (enc : TypeId × Value → H) :
    ReturnsInHanded {} Try.checked os 21 .any (Rows.areaOneSpec.pre6 enc Try.prog Try.f21 Rows.areaOneRow.domain false) (Rows.areaOneSpec.post enc Try.prog Try.f21 false true false false) := by
  refine returnsInHanded_of_change_sized (C := Try.checked) own started (by kernel_rfl) Try.func21
    (ChangeSpec.witness6 (enc := enc) (C := Try.checked) false ⟨#[], #[.int .u8 0, .slice none 0 0, .slice none 0 0], []⟩ 8 (by kernel_rfl) (by kernel_rfl) (by kernel_rfl) (by kernel_rfl)) ?_
  intro W base args ds gs before hval0 hW hcnd hsz0 _
  have hsz : (DataW.weightsEach Try.prog (Try.f21.params.toList ++ Rows.areaOneSpec.plain.varTypes Try.prog) (ds ++ gs)).all (· ≤ reachBytes) = true := hsz0
  have hval : ∀ (j : Nat) t v, Try.f21.params[j]? = some t → args[j]? = some v → Value.okWide Try.prog W .any base t v := hval0
  clear hval0 hsz0 hcnd
  exact runs W base args ds gs before hval hW hsz
theorem facts : joinedFacts Try.prog 21 Try.f21 Rows.areaOneSpec Rows.areaOneRow = true := by
  unfold joinedFacts
  rw [Gm.Head.enter, Gm.Head.final, Gm.Head.made]
  kernel_rfl
theorem over : Rows.areaOneRow.holds Try.pinned (OpenSpec.ofChange Rows.areaOneSpec) :=
  OpenClaim.holds_of_wide 21 Try.f21 rfl rfl rfl rfl rfl rfl rfl ⟨rfl, rfl, rfl, rfl, rfl⟩ rfl rfl rfl rfl rfl (by kernel_rfl) Try.func21 facts
    (of_decide_eq_true (by kernel_rfl)) (by unfold Func.isWrapper; first | (rw [if_pos (by decide +kernel)]; kernel_rfl) | (rw [if_neg (by decide +kernel)]; exact ⟨rfl, rfl⟩))
    (fun os started H enc _ => lifted os started H enc)
theorem proved : Rows.AreaOneSaid := over
end Go.Proofs.Ytbhgalddlkebgaa.areaOne
namespace Go.Proofs.Ytbhgalddlkebgaa
/-- The row, under a short name. -/
theorem areaOne_holds : Rows.AreaOneSaid := areaOne.proved
#print axioms areaOne_holds
end Go.Proofs.Ytbhgalddlkebgaa
