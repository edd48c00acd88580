/- Whatever number, text and flags come in, NumBack answers true and leaves them as they were; there is no condition. -/
import Derived.Test.YtbhgalddlkebgaaRows
import Derived.Test.YtbhgalddlkebgaaGmPc
import Derived.Test.YtbhgalddlkebgaaGmHead
import Derived.ProofKit
import Derived.SizedLaws
namespace Go.Proofs.Ytbhgalddlkebgaa.numBack
open Gm
theorem own : ownKnob Try.prog.godebug = none := by kernel_rfl
theorem laid : laidOutB Try.prog = true := by kernel_rfl
theorem reads : (Try.f8.params.toList.all fun t => Try.prog.readableRec t && decide (t < Try.prog.types.size)) = true := by kernel_rfl
theorem types : tysIs Try.prog [(.int .u64), .str, (.slice .bool)] Try.f8.params.toList = true := by kernel_rfl
theorem answer : Try.f8.resultTypes = #[4] := by kernel_rfl
theorem abool : Try.prog.underlying 4 = some .bool := by kernel_rfl
theorem same : E.P = Try.prog := rfl
theorem law (x : Dens [(.int .u64), .str, (.slice .bool)]) (hx : WfAll [(.int .u64), .str, (.slice .bool)] x) : law01_NumBack.F x.1 x.2.1 x.2.2.1 (fun r => r = true) := law01_NumBack_true hx.1
theorem fits : ∀ (H : Type) (ds : List (DataW H)), ds.length = 3 → Rows.numBackSpec.fn H ds = ⟨[.lit (.bool true)], ds, []⟩ := fun _ ds h => match ds, h with | [_, _, _], _ => rfl
set_option maxRecDepth 100000 in
theorem runs {H : Type} {encH : TypeId × Value → H} (W : World) (base : Nat) (args : Array Value) (ds gs : List (DataW H)) (before : List MemPlace)
    (hok : ∀ (j : Nat) t v, Try.f8.params[j]? = some t → args[j]? = some v → Value.okWide Try.prog W .any base t v)
    (hW : DataW.Whole encH Try.prog Try.f8.params.toList Rows.numBackSpec.vars false W args.toList ds gs before)
    (hw : (DataW.weightsEach Try.prog (Try.f8.params.toList ++ Rows.numBackSpec.plain.varTypes Try.prog) (ds ++ gs)).all (· ≤ reachBytes) = true) :
    Calls Try.prog 8 args W fun e W' => ∃ v, e = .returned v ∧ Rows.numBackSpec.post encH Try.prog Try.f8 false true false false W args v W' :=
  law_contract (E := E) (P := Try.prog) (us := [(.int .u64), .str, (.slice .bool)]) (F := fun x => law01_NumBack.F x.1 x.2.1 x.2.2.1) (tb := 4) same law01_NumBack.ground law01_NumBack.loops law01_NumBack.eq law laid reads types rfl answer abool fits W base args ds gs before hok hW hw
set_option maxRecDepth 100000 in
theorem lifted (os : Os) (started : os.Started) (H : Type) (enc : TypeId × Value → H) :
    ReturnsInHanded {} Try.checked os 8 .any (Rows.numBackSpec.pre6 enc Try.prog Try.f8 Rows.numBackRow.domain false) (Rows.numBackSpec.post enc Try.prog Try.f8 false true false false) := by
  refine returnsInHanded_of_change_sized (C := Try.checked) own started (by kernel_rfl) Try.func8
    (ChangeSpec.witness6 (enc := enc) (C := Try.checked) false ⟨#[], #[.int .u64 0, .string ByteArray.empty, .slice none 0 0], []⟩ 8 (by kernel_rfl) (by kernel_rfl) (by kernel_rfl) (by kernel_rfl)) ?_
  intro W base args ds gs before hval0 hW hcnd hsz0 _
  have hsz : (DataW.weightsEach Try.prog (Try.f8.params.toList ++ Rows.numBackSpec.plain.varTypes Try.prog) (ds ++ gs)).all (· ≤ reachBytes) = true := hsz0
  have hval : ∀ (j : Nat) t v, Try.f8.params[j]? = some t → args[j]? = some v → Value.okWide Try.prog W .any base t v := hval0
  clear hval0 hsz0 hcnd
  exact runs W base args ds gs before hval hW hsz
theorem facts : joinedFacts Try.prog 8 Try.f8 Rows.numBackSpec Rows.numBackRow = true := by
  unfold joinedFacts
  rw [Gm.Head.enter, Gm.Head.final, Gm.Head.made]
  kernel_rfl
theorem over : Rows.numBackRow.holds Try.pinned (OpenSpec.ofChange Rows.numBackSpec) :=
  OpenClaim.holds_of_wide 8 Try.f8 rfl rfl rfl rfl rfl rfl rfl ⟨rfl, rfl, rfl, rfl, rfl⟩ rfl rfl rfl rfl rfl (by kernel_rfl) Try.func8 facts
    (of_decide_eq_true (by kernel_rfl)) (by unfold Func.isWrapper; first | (rw [if_pos (by decide +kernel)]; kernel_rfl) | (rw [if_neg (by decide +kernel)]; exact ⟨rfl, rfl⟩))
    (fun os started H enc _ => lifted os started H enc)
theorem proved : Rows.NumBackSaid := over
end Go.Proofs.Ytbhgalddlkebgaa.numBack
namespace Go.Proofs.Ytbhgalddlkebgaa
/-- The row, under a short name. -/
theorem numBack_holds : Rows.NumBackSaid := numBack.proved
#print axioms numBack_holds
end Go.Proofs.Ytbhgalddlkebgaa
