/- Whatever cluster, numbers and fuse come in, WriteMarked answers true and leaves them as they were; there is no condition. -/
import Derived.Test.YtohdbkaolchifaaGreatRows
import Derived.ProofKit
import Derived.SizedLaws
import Derived.Test.YtohdbkaolchifaaGreatGnQ2
import Derived.Test.YtohdbkaolchifaaGreatGnHead
namespace Go.Proofs.YtohdbkaolchifaaGreat.writeMarked
open Gm
theorem own : ownKnob Tryz.prog.godebug = none := by kernel_rfl
theorem laid : laidOutB Tryz.prog = true := by kernel_rfl
theorem reads : (Tryz.f3.params.toList.all fun t => Tryz.prog.readableRec t && decide (t < Tryz.prog.types.size)) = true := by kernel_rfl
theorem types : tysIs Tryz.prog [(.st 16), (.st 18), (.int .u8)] Tryz.f3.params.toList = true := by kernel_rfl
theorem answer : Tryz.f3.resultTypes = #[4] := by kernel_rfl
theorem abool : Tryz.prog.underlying 4 = some .bool := by kernel_rfl
theorem same : E.P = Tryz.prog := rfl
theorem law (x : Dens [(.st 16), (.st 18), (.int .u8)]) (hx : WfAll [(.st 16), (.st 18), (.int .u8)] x) : q178.F x.1 x.2.1 x.2.2.1 (fun r => r = true) := WriteMarked_ok (inK_pos hx.1.1) (fun e h => (hx.1.2.2 e h).2.2.2.2.2.1) hx.2.2.1 rfl
theorem fits : ∀ (H : Type) (ds : List (DataW H)), ds.length = 3 → Rows.writeMarkedSpec.fn H ds = ⟨[.lit (.bool true)], ds, []⟩ := fun _ ds h => match ds, h with | [_, _, _], _ => rfl
set_option maxRecDepth 100000 in
theorem runs {H : Type} {encH : TypeId × Value → H} (W : World) (base : Nat) (args : Array Value) (ds gs : List (DataW H)) (before : List MemPlace)
    (hok : ∀ (j : Nat) t v, Tryz.f3.params[j]? = some t → args[j]? = some v → Value.okWide Tryz.prog W .any base t v)
    (hW : DataW.Whole encH Tryz.prog Tryz.f3.params.toList Rows.writeMarkedSpec.vars false W args.toList ds gs before)
    (hw : (DataW.weightsEach Tryz.prog (Tryz.f3.params.toList ++ Rows.writeMarkedSpec.plain.varTypes Tryz.prog) (ds ++ gs)).all (· ≤ reachBytes) = true) :
    Calls Tryz.prog 3 args W fun e W' => ∃ v, e = .returned v ∧ Rows.writeMarkedSpec.post encH Tryz.prog Tryz.f3 false true false false W args v W' :=
  law_contract (E := E) (P := Tryz.prog) (us := [(.st 16), (.st 18), (.int .u8)]) (F := fun x => q178.F x.1 x.2.1 x.2.2.1) (tb := 4) same q178.ground q178.loops q178.eq law laid reads types rfl answer abool fits W trivial base args ds gs before hok hW hw
set_option maxRecDepth 100000 in
theorem lifted (os : Os) (started : os.Started) (H : Type) (enc : TypeId × Value → H) :
    ReturnsInHanded {} Tryz.checked os 3 .any (Rows.writeMarkedSpec.pre6 enc Tryz.prog Tryz.f3 Rows.writeMarkedRow.domain false) (Rows.writeMarkedSpec.post enc Tryz.prog Tryz.f3 false true false false) := by
  refine returnsInHanded_of_change_sized (C := Tryz.checked) own started (by kernel_rfl) Tryz.func3
    (ChangeSpec.witness6 (enc := enc) (C := Tryz.checked) false ⟨#[], #[.agg #[.int .u8 0, .slice none 0 0, .bool false], .agg #[.int .i64 0, .int .i64 0], .int .u8 0], []⟩ 8 (by kernel_rfl) (by kernel_rfl) (by kernel_rfl) (by kernel_rfl)) ?_
  intro W base args ds gs before hval0 hW hcnd hsz0 _
  have hsz : (DataW.weightsEach Tryz.prog (Tryz.f3.params.toList ++ Rows.writeMarkedSpec.plain.varTypes Tryz.prog) (ds ++ gs)).all (· ≤ reachBytes) = true := hsz0
  have hval : ∀ (j : Nat) t v, Tryz.f3.params[j]? = some t → args[j]? = some v → Value.okWide Tryz.prog W .any base t v := hval0
  clear hval0 hsz0 hcnd
  exact runs W base args ds gs before hval hW hsz
theorem facts : joinedFacts Tryz.prog 3 Tryz.f3 Rows.writeMarkedSpec Rows.writeMarkedRow = true := by
  unfold joinedFacts
  rw [Gm.Head.enter, Gm.Head.final, Gm.Head.made]
  kernel_rfl
theorem over : Rows.writeMarkedRow.holds Tryz.pinned (OpenSpec.ofChange Rows.writeMarkedSpec) :=
  OpenClaim.holds_of_wide 3 Tryz.f3 rfl rfl rfl rfl rfl rfl rfl ⟨rfl, rfl, rfl, rfl, rfl⟩ rfl rfl rfl rfl rfl (by kernel_rfl) Tryz.func3 facts
    (of_decide_eq_true (by kernel_rfl)) (by unfold Func.isWrapper; first | (rw [if_pos (by decide +kernel)]; kernel_rfl) | (rw [if_neg (by decide +kernel)]; exact ⟨rfl, rfl⟩))
    (fun os started H enc _ => lifted os started H enc)
theorem proved : Rows.WriteMarkedSaid := over
end Go.Proofs.YtohdbkaolchifaaGreat.writeMarked
namespace Go.Proofs.YtohdbkaolchifaaGreat
/-- The row, under a short name. -/
theorem writeMarked_holds : Rows.WriteMarkedSaid := writeMarked.proved
#print axioms writeMarked_holds
end Go.Proofs.YtohdbkaolchifaaGreat
