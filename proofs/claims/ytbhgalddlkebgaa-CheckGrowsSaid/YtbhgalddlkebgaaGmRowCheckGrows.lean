/- Whatever text and byte come in, CheckGrows answers true and leaves them as they were; there is no condition. -/
import Derived.Test.YtbhgalddlkebgaaRows
import Derived.Test.YtbhgalddlkebgaaGmPc
import Derived.Test.YtbhgalddlkebgaaGmHead
import Derived.ProofKit
import Derived.SizedLaws
namespace Go.Proofs.Ytbhgalddlkebgaa.checkGrows
open Gm
theorem own : ownKnob Try.prog.godebug = none := by kernel_rfl
theorem laid : laidOutB Try.prog = true := by kernel_rfl
theorem reads : (Try.f5.params.toList.all fun t => Try.prog.readableRec t && decide (t < Try.prog.types.size)) = true := by kernel_rfl
theorem types : tysIs Try.prog [.str, (.int .u8)] Try.f5.params.toList = true := by kernel_rfl
theorem answer : Try.f5.resultTypes = #[4] := by kernel_rfl
theorem abool : Try.prog.underlying 4 = some .bool := by kernel_rfl
theorem same : E.P = Try.prog := rfl
theorem law (x : Dens [.str, (.int .u8)]) (hx : WfAll [.str, (.int .u8)] x) : law02_CheckGrows.F x.1 x.2.1 (fun r => r = true) := law02_CheckGrows_true hx.1 hx.2.1
theorem fits : ∀ (H : Type) (ds : List (DataW H)), ds.length = 2 → Rows.checkGrowsSpec.fn H ds = ⟨[.lit (.bool true)], ds, []⟩ := fun _ ds h => match ds, h with | [_, _], _ => rfl
set_option maxRecDepth 100000 in
theorem runs {H : Type} {encH : TypeId × Value → H} (W : World) (base : Nat) (args : Array Value) (ds gs : List (DataW H)) (before : List MemPlace)
    (hok : ∀ (j : Nat) t v, Try.f5.params[j]? = some t → args[j]? = some v → Value.okWide Try.prog W .any base t v)
    (hW : DataW.Whole encH Try.prog Try.f5.params.toList Rows.checkGrowsSpec.vars false W args.toList ds gs before)
    (hw : (DataW.weightsEach Try.prog (Try.f5.params.toList ++ Rows.checkGrowsSpec.plain.varTypes Try.prog) (ds ++ gs)).all (· ≤ reachBytes) = true) :
    Calls Try.prog 5 args W fun e W' => ∃ v, e = .returned v ∧ Rows.checkGrowsSpec.post encH Try.prog Try.f5 false true false false W args v W' :=
  law_contract (E := E) (P := Try.prog) (us := [.str, (.int .u8)]) (F := fun x => law02_CheckGrows.F x.1 x.2.1) (tb := 4) same law02_CheckGrows.ground law02_CheckGrows.loops law02_CheckGrows.eq law laid reads types rfl answer abool fits W base args ds gs before hok hW hw
set_option maxRecDepth 100000 in
theorem lifted (os : Os) (started : os.Started) (H : Type) (enc : TypeId × Value → H) :
    ReturnsInHanded {} Try.checked os 5 .any (Rows.checkGrowsSpec.pre6 enc Try.prog Try.f5 Rows.checkGrowsRow.domain false) (Rows.checkGrowsSpec.post enc Try.prog Try.f5 false true false false) := by
  refine returnsInHanded_of_change_sized (C := Try.checked) own started (by kernel_rfl) Try.func5
    (ChangeSpec.witness6 (enc := enc) (C := Try.checked) false ⟨#[], #[.string ByteArray.empty, .int .u8 0], []⟩ 8 (by kernel_rfl) (by kernel_rfl) (by kernel_rfl) (by kernel_rfl)) ?_
  intro W base args ds gs before hval0 hW hcnd hsz0 _
  have hsz : (DataW.weightsEach Try.prog (Try.f5.params.toList ++ Rows.checkGrowsSpec.plain.varTypes Try.prog) (ds ++ gs)).all (· ≤ reachBytes) = true := hsz0
  have hval : ∀ (j : Nat) t v, Try.f5.params[j]? = some t → args[j]? = some v → Value.okWide Try.prog W .any base t v := hval0
  clear hval0 hsz0 hcnd
  exact runs W base args ds gs before hval hW hsz
theorem facts : joinedFacts Try.prog 5 Try.f5 Rows.checkGrowsSpec Rows.checkGrowsRow = true := by
  unfold joinedFacts
  rw [Gm.Head.enter, Gm.Head.final, Gm.Head.made]
  kernel_rfl
theorem over : Rows.checkGrowsRow.holds Try.pinned (OpenSpec.ofChange Rows.checkGrowsSpec) :=
  OpenClaim.holds_of_wide 5 Try.f5 rfl rfl rfl rfl rfl rfl rfl ⟨rfl, rfl, rfl, rfl, rfl⟩ rfl rfl rfl rfl rfl (by kernel_rfl) Try.func5 facts
    (of_decide_eq_true (by kernel_rfl)) (by unfold Func.isWrapper; first | (rw [if_pos (by decide +kernel)]; kernel_rfl) | (rw [if_neg (by decide +kernel)]; exact ⟨rfl, rfl⟩))
    (fun os started H enc _ => lifted os started H enc)
theorem proved : Rows.CheckGrowsSaid := over
end Go.Proofs.Ytbhgalddlkebgaa.checkGrows
namespace Go.Proofs.Ytbhgalddlkebgaa
/-- The row, under a short name. -/
theorem checkGrows_holds : Rows.CheckGrowsSaid := checkGrows.proved
#print axioms checkGrows_holds
end Go.Proofs.Ytbhgalddlkebgaa
