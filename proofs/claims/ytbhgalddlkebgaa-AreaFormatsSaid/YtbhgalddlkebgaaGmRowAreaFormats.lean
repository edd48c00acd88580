/- Whatever numbers come in, AreaFormats answers true; there is no condition. -/
import Derived.Test.YtbhgalddlkebgaaRows
import Derived.Test.YtbhgalddlkebgaaGmPo
import Derived.Test.YtbhgalddlkebgaaGmHead
import Derived.ProofKit
import Derived.SizedLaws
namespace Go.Proofs.Ytbhgalddlkebgaa.areaFormats
open Gm
theorem own : ownKnob Try.prog.godebug = none := by kernel_rfl
theorem laid : laidOutB Try.prog = true := by kernel_rfl
theorem reads : (Try.f20.params.toList.all fun t => Try.prog.readableRec t && decide (t < Try.prog.types.size)) = true := by kernel_rfl
theorem types : tysIs Try.prog [(.int .i64), (.int .u64)] Try.f20.params.toList = true := by kernel_rfl
theorem answer : Try.f20.resultTypes = #[4] := by kernel_rfl
theorem abool : Try.prog.underlying 4 = some .bool := by kernel_rfl
theorem same : E.P = Try.prog := rfl
theorem law (x : Dens [(.int .i64), (.int .u64)]) (hx : WfAll [(.int .i64), (.int .u64)] x) : law09_AreaFormats.F x.1 x.2.1 (fun r => r = true) := law09_AreaFormats_true hx.2.1
theorem fits : ∀ (H : Type) (ds : List (DataW H)), ds.length = 2 → Rows.areaFormatsSpec.fn H ds = ⟨[.lit (.bool true)], ds, []⟩ := fun _ ds h => match ds, h with | [_, _], _ => rfl
set_option maxRecDepth 100000 in
theorem runs {H : Type} {encH : TypeId × Value → H} (W : World) (base : Nat) (args : Array Value) (ds gs : List (DataW H)) (before : List MemPlace)
    (hok : ∀ (j : Nat) t v, Try.f20.params[j]? = some t → args[j]? = some v → Value.okWide Try.prog W .any base t v)
    (hW : DataW.Whole encH Try.prog Try.f20.params.toList Rows.areaFormatsSpec.vars false W args.toList ds gs before)
    (hw : (DataW.weightsEach Try.prog (Try.f20.params.toList ++ Rows.areaFormatsSpec.plain.varTypes Try.prog) (ds ++ gs)).all (· ≤ reachBytes) = true) :
    Calls Try.prog 20 args W fun e W' => ∃ v, e = .returned v ∧ Rows.areaFormatsSpec.post encH Try.prog Try.f20 false true false false W args v W' :=
  law_contract (E := E) (P := Try.prog) (us := [(.int .i64), (.int .u64)]) (F := fun x => law09_AreaFormats.F x.1 x.2.1) (tb := 4) same law09_AreaFormats.ground law09_AreaFormats.loops law09_AreaFormats.eq law laid reads types rfl answer abool fits W base args ds gs before hok hW hw
set_option maxRecDepth 100000 in
theorem lifted (os : Os) (started : os.Started) (H : Type) (enc : TypeId × Value → H) :
    ReturnsInHanded {} Try.checked os 20 .any (Rows.areaFormatsSpec.pre6 enc Try.prog Try.f20 Rows.areaFormatsRow.domain false) (Rows.areaFormatsSpec.post enc Try.prog Try.f20 false true false false) := by
  refine returnsInHanded_of_change_sized (C := Try.checked) own started (by kernel_rfl) Try.func20
    (ChangeSpec.witness6 (enc := enc) (C := Try.checked) false ⟨#[], #[.int .i64 0, .int .u64 0], []⟩ 8 (by kernel_rfl) (by kernel_rfl) (by kernel_rfl) (by kernel_rfl)) ?_
  intro W base args ds gs before hval0 hW hcnd hsz0 _
  have hsz : (DataW.weightsEach Try.prog (Try.f20.params.toList ++ Rows.areaFormatsSpec.plain.varTypes Try.prog) (ds ++ gs)).all (· ≤ reachBytes) = true := hsz0
  have hval : ∀ (j : Nat) t v, Try.f20.params[j]? = some t → args[j]? = some v → Value.okWide Try.prog W .any base t v := hval0
  clear hval0 hsz0 hcnd
  exact runs W base args ds gs before hval hW hsz
theorem facts : joinedFacts Try.prog 20 Try.f20 Rows.areaFormatsSpec Rows.areaFormatsRow = true := by
  unfold joinedFacts
  rw [Gm.Head.enter, Gm.Head.final, Gm.Head.made]
  kernel_rfl
theorem over : Rows.areaFormatsRow.holds Try.pinned (OpenSpec.ofChange Rows.areaFormatsSpec) :=
  OpenClaim.holds_of_wide 20 Try.f20 rfl rfl rfl rfl rfl rfl rfl ⟨rfl, rfl, rfl, rfl, rfl⟩ rfl rfl rfl rfl rfl (by kernel_rfl) Try.func20 facts
    (of_decide_eq_true (by kernel_rfl)) (by unfold Func.isWrapper; first | (rw [if_pos (by decide +kernel)]; kernel_rfl) | (rw [if_neg (by decide +kernel)]; exact ⟨rfl, rfl⟩))
    (fun os started H enc _ => lifted os started H enc)
theorem proved : Rows.AreaFormatsSaid := over
end Go.Proofs.Ytbhgalddlkebgaa.areaFormats
namespace Go.Proofs.Ytbhgalddlkebgaa
/-- The row, under a short name. -/
theorem areaFormats_holds : Rows.AreaFormatsSaid := areaFormats.proved
#print axioms areaFormats_holds
end Go.Proofs.Ytbhgalddlkebgaa
