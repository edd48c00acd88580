/- Whatever number, masks and flags come in, BitsSure answers true and leaves them as they were; there is no condition. -/
import Derived.Test.YtbhgalddlkebgaaRows
import Derived.Test.YtbhgalddlkebgaaGmPj
import Derived.Test.YtbhgalddlkebgaaGmHead
import Derived.ProofKit
import Derived.SizedLaws
namespace Go.Proofs.Ytbhgalddlkebgaa.bitsSure
open Gm
theorem own : ownKnob Try.prog.godebug = none := by kernel_rfl
theorem laid : laidOutB Try.prog = true := by kernel_rfl
theorem reads : (Try.f18.params.toList.all fun t => Try.prog.readableRec t && decide (t < Try.prog.types.size)) = true := by kernel_rfl
theorem types : tysIs Try.prog [(.int .u8), (.st 7), (.slice .bool)] Try.f18.params.toList = true := by kernel_rfl
theorem answer : Try.f18.resultTypes = #[4] := by kernel_rfl
theorem abool : Try.prog.underlying 4 = some .bool := by kernel_rfl
theorem same : E.P = Try.prog := rfl
theorem law (x : Dens [(.int .u8), (.st 7), (.slice .bool)]) (hx : WfAll [(.int .u8), (.st 7), (.slice .bool)] x) : law08_BitsSure.F x.1 x.2.1 x.2.2.1 (fun r => r = true) := law08_BitsSure_true hx.1 hx.2.1.1 hx.2.1.2
theorem fits : ∀ (H : Type) (ds : List (DataW H)), ds.length = 3 → Rows.bitsSureSpec.fn H ds = ⟨[.lit (.bool true)], ds, []⟩ := fun _ ds h => match ds, h with | [_, _, _], _ => rfl
set_option maxRecDepth 100000 in
theorem runs {H : Type} {encH : TypeId × Value → H} (W : World) (base : Nat) (args : Array Value) (ds gs : List (DataW H)) (before : List MemPlace)
    (hok : ∀ (j : Nat) t v, Try.f18.params[j]? = some t → args[j]? = some v → Value.okWide Try.prog W .any base t v)
    (hW : DataW.Whole encH Try.prog Try.f18.params.toList Rows.bitsSureSpec.vars false W args.toList ds gs before)
    (hw : (DataW.weightsEach Try.prog (Try.f18.params.toList ++ Rows.bitsSureSpec.plain.varTypes Try.prog) (ds ++ gs)).all (· ≤ reachBytes) = true) :
    Calls Try.prog 18 args W fun e W' => ∃ v, e = .returned v ∧ Rows.bitsSureSpec.post encH Try.prog Try.f18 false true false false W args v W' :=
  law_contract (E := E) (P := Try.prog) (us := [(.int .u8), (.st 7), (.slice .bool)]) (F := fun x => law08_BitsSure.F x.1 x.2.1 x.2.2.1) (tb := 4) same law08_BitsSure.ground law08_BitsSure.loops law08_BitsSure.eq law laid reads types rfl answer abool fits W base args ds gs before hok hW hw
set_option maxRecDepth 100000 in
theorem lifted (os : Os) (started : os.Started) (H : Type) (enc : TypeId × Value → H) :
    ReturnsInHanded {} Try.checked os 18 .any (Rows.bitsSureSpec.pre6 enc Try.prog Try.f18 Rows.bitsSureRow.domain false) (Rows.bitsSureSpec.post enc Try.prog Try.f18 false true false false) := by
  refine returnsInHanded_of_change_sized (C := Try.checked) own started (by kernel_rfl) Try.func18
    (ChangeSpec.witness6 (enc := enc) (C := Try.checked) false ⟨#[], #[.int .u8 0, .agg #[.int .u32 0, .int .u32 0], .slice none 0 0], []⟩ 8 (by kernel_rfl) (by kernel_rfl) (by kernel_rfl) (by kernel_rfl)) ?_
  intro W base args ds gs before hval0 hW hcnd hsz0 _
  have hsz : (DataW.weightsEach Try.prog (Try.f18.params.toList ++ Rows.bitsSureSpec.plain.varTypes Try.prog) (ds ++ gs)).all (· ≤ reachBytes) = true := hsz0
  have hval : ∀ (j : Nat) t v, Try.f18.params[j]? = some t → args[j]? = some v → Value.okWide Try.prog W .any base t v := hval0
  clear hval0 hsz0 hcnd
  exact runs W base args ds gs before hval hW hsz
theorem facts : joinedFacts Try.prog 18 Try.f18 Rows.bitsSureSpec Rows.bitsSureRow = true := by
  unfold joinedFacts
  rw [Gm.Head.enter, Gm.Head.final, Gm.Head.made]
  kernel_rfl
theorem over : Rows.bitsSureRow.holds Try.pinned (OpenSpec.ofChange Rows.bitsSureSpec) :=
  OpenClaim.holds_of_wide 18 Try.f18 rfl rfl rfl rfl rfl rfl rfl ⟨rfl, rfl, rfl, rfl, rfl⟩ rfl rfl rfl rfl rfl (by kernel_rfl) Try.func18 facts
    (of_decide_eq_true (by kernel_rfl)) (by unfold Func.isWrapper; first | (rw [if_pos (by decide +kernel)]; kernel_rfl) | (rw [if_neg (by decide +kernel)]; exact ⟨rfl, rfl⟩))
    (fun os started H enc _ => lifted os started H enc)
theorem proved : Rows.BitsSureSaid := over
end Go.Proofs.Ytbhgalddlkebgaa.bitsSure
namespace Go.Proofs.Ytbhgalddlkebgaa
/-- The row, under a short name. -/
theorem bitsSure_holds : Rows.BitsSureSaid := bitsSure.proved
#print axioms bitsSure_holds
end Go.Proofs.Ytbhgalddlkebgaa
