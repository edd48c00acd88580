/- Whatever disk and flags come in, DiskAtomic answers true and leaves them as they were; there is no condition. -/
import Derived.Test.YtbhgalddlkebgaaRows
import Derived.Test.YtbhgalddlkebgaaGmPh
import Derived.Test.YtbhgalddlkebgaaGmHead
import Derived.ProofKit
import Derived.SizedLaws
namespace Go.Proofs.Ytbhgalddlkebgaa.diskAtomic
open Gm
theorem own : ownKnob Try.prog.godebug = none := by kernel_rfl
theorem laid : laidOutB Try.prog = true := by kernel_rfl
theorem reads : (Try.f15.params.toList.all fun t => Try.prog.readableRec t && decide (t < Try.prog.types.size)) = true := by kernel_rfl
theorem types : tysIs Try.prog [(.st 1), (.slice .bool)] Try.f15.params.toList = true := by kernel_rfl
theorem answer : Try.f15.resultTypes = #[4] := by kernel_rfl
theorem abool : Try.prog.underlying 4 = some .bool := by kernel_rfl
theorem same : E.P = Try.prog := rfl
theorem law (x : Dens [(.st 1), (.slice .bool)]) (_ : WfAll [(.st 1), (.slice .bool)] x) : law04_DiskAtomic.F x.1 x.2.1 (fun r => r = true) := law04_DiskAtomic_true
theorem fits : ∀ (H : Type) (ds : List (DataW H)), ds.length = 2 → Rows.diskAtomicSpec.fn H ds = ⟨[.lit (.bool true)], ds, []⟩ := fun _ ds h => match ds, h with | [_, _], _ => rfl
set_option maxRecDepth 100000 in
theorem runs {H : Type} {encH : TypeId × Value → H} (W : World) (base : Nat) (args : Array Value) (ds gs : List (DataW H)) (before : List MemPlace)
    (hok : ∀ (j : Nat) t v, Try.f15.params[j]? = some t → args[j]? = some v → Value.okWide Try.prog W .any base t v)
    (hW : DataW.Whole encH Try.prog Try.f15.params.toList Rows.diskAtomicSpec.vars false W args.toList ds gs before)
    (hw : (DataW.weightsEach Try.prog (Try.f15.params.toList ++ Rows.diskAtomicSpec.plain.varTypes Try.prog) (ds ++ gs)).all (· ≤ reachBytes) = true) :
    Calls Try.prog 15 args W fun e W' => ∃ v, e = .returned v ∧ Rows.diskAtomicSpec.post encH Try.prog Try.f15 false true false false W args v W' :=
  law_contract (E := E) (P := Try.prog) (us := [(.st 1), (.slice .bool)]) (F := fun x => law04_DiskAtomic.F x.1 x.2.1) (tb := 4) same law04_DiskAtomic.ground law04_DiskAtomic.loops law04_DiskAtomic.eq law laid reads types rfl answer abool fits W base args ds gs before hok hW hw
set_option maxRecDepth 100000 in
theorem lifted (os : Os) (started : os.Started) (H : Type) (enc : TypeId × Value → H) :
    ReturnsInHanded {} Try.checked os 15 .any (Rows.diskAtomicSpec.pre6 enc Try.prog Try.f15 Rows.diskAtomicRow.domain false) (Rows.diskAtomicSpec.post enc Try.prog Try.f15 false true false false) := by
  refine returnsInHanded_of_change_sized (C := Try.checked) own started (by kernel_rfl) Try.func15
    (ChangeSpec.witness6 (enc := enc) (C := Try.checked) false ⟨#[], #[.agg #[.slice none 0 0, .slice none 0 0, .int .i64 0, .bool false], .slice none 0 0], []⟩ 8 (by kernel_rfl) (by kernel_rfl) (by kernel_rfl) (by kernel_rfl)) ?_
  intro W base args ds gs before hval0 hW hcnd hsz0 _
  have hsz : (DataW.weightsEach Try.prog (Try.f15.params.toList ++ Rows.diskAtomicSpec.plain.varTypes Try.prog) (ds ++ gs)).all (· ≤ reachBytes) = true := hsz0
  have hval : ∀ (j : Nat) t v, Try.f15.params[j]? = some t → args[j]? = some v → Value.okWide Try.prog W .any base t v := hval0
  clear hval0 hsz0 hcnd
  exact runs W base args ds gs before hval hW hsz
theorem facts : joinedFacts Try.prog 15 Try.f15 Rows.diskAtomicSpec Rows.diskAtomicRow = true := by
  unfold joinedFacts
  rw [Gm.Head.enter, Gm.Head.final, Gm.Head.made]
  kernel_rfl
theorem over : Rows.diskAtomicRow.holds Try.pinned (OpenSpec.ofChange Rows.diskAtomicSpec) :=
  OpenClaim.holds_of_wide 15 Try.f15 rfl rfl rfl rfl rfl rfl rfl ⟨rfl, rfl, rfl, rfl, rfl⟩ rfl rfl rfl rfl rfl (by kernel_rfl) Try.func15 facts
    (of_decide_eq_true (by kernel_rfl)) (by unfold Func.isWrapper; first | (rw [if_pos (by decide +kernel)]; kernel_rfl) | (rw [if_neg (by decide +kernel)]; exact ⟨rfl, rfl⟩))
    (fun os started H enc _ => lifted os started H enc)
theorem proved : Rows.DiskAtomicSaid := over
end Go.Proofs.Ytbhgalddlkebgaa.diskAtomic
namespace Go.Proofs.Ytbhgalddlkebgaa
/-- The row, under a short name. -/
theorem diskAtomic_holds : Rows.DiskAtomicSaid := diskAtomic.proved
#print axioms diskAtomic_holds
end Go.Proofs.Ytbhgalddlkebgaa
