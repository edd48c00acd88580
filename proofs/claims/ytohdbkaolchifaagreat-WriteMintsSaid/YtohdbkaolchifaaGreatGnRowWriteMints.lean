/- Whatever cluster, numbers and text come in, WriteMints answers true and leaves them as they were; there is no condition. -/
import Derived.Test.YtohdbkaolchifaaGreatRows
import Derived.ProofKit
import Derived.SizedLaws
import Derived.Test.YtohdbkaolchifaaGreatGnP4
import Derived.Test.YtohdbkaolchifaaGreatGnHead
namespace Go.Proofs.YtohdbkaolchifaaGreat.writeMints
open Gm
theorem own : ownKnob Tryz.prog.godebug = none := by kernel_rfl
theorem laid : laidOutB Tryz.prog = true := by kernel_rfl
theorem reads : (Tryz.f4.params.toList.all fun t => Tryz.prog.readableRec t && decide (t < Tryz.prog.types.size)) = true := by kernel_rfl
theorem types : tysIs Tryz.prog [(.st 16), (.st 18), .str] Tryz.f4.params.toList = true := by kernel_rfl
theorem answer : Tryz.f4.resultTypes = #[4] := by kernel_rfl
theorem abool : Tryz.prog.underlying 4 = some .bool := by kernel_rfl
theorem same : E.P = Tryz.prog := rfl
theorem law (x : Dens [(.st 16), (.st 18), .str]) (hx : WfAll [(.st 16), (.st 18), .str] x) : q179.F x.1 x.2.1 x.2.2.1 (fun r => r = true) := WriteMints_ok (inK_pos hx.1.1) (fun e h => (hx.1.2.2 e h).2.2.2.2.2.1) rfl
theorem fits : ∀ (H : Type) (ds : List (DataW H)), ds.length = 3 → Rows.writeMintsSpec.fn H ds = ⟨[.lit (.bool true)], ds, []⟩ := fun _ ds h => match ds, h with | [_, _, _], _ => rfl
set_option maxRecDepth 100000 in
theorem runs {H : Type} {encH : TypeId × Value → H} (W : World) (base : Nat) (args : Array Value) (ds gs : List (DataW H)) (before : List MemPlace)
    (hok : ∀ (j : Nat) t v, Tryz.f4.params[j]? = some t → args[j]? = some v → Value.okWide Tryz.prog W .any base t v)
    (hW : DataW.Whole encH Tryz.prog Tryz.f4.params.toList Rows.writeMintsSpec.vars false W args.toList ds gs before)
    (hw : (DataW.weightsEach Tryz.prog (Tryz.f4.params.toList ++ Rows.writeMintsSpec.plain.varTypes Tryz.prog) (ds ++ gs)).all (· ≤ reachBytes) = true) :
    Calls Tryz.prog 4 args W fun e W' => ∃ v, e = .returned v ∧ Rows.writeMintsSpec.post encH Tryz.prog Tryz.f4 false true false false W args v W' :=
  law_contract (E := E) (P := Tryz.prog) (us := [(.st 16), (.st 18), .str]) (F := fun x => q179.F x.1 x.2.1 x.2.2.1) (tb := 4) same q179.ground q179.loops q179.eq law laid reads types rfl answer abool fits W trivial base args ds gs before hok hW hw
set_option maxRecDepth 100000 in
theorem lifted (os : Os) (started : os.Started) (H : Type) (enc : TypeId × Value → H) :
    ReturnsInHanded {} Tryz.checked os 4 .any (Rows.writeMintsSpec.pre6 enc Tryz.prog Tryz.f4 Rows.writeMintsRow.domain false) (Rows.writeMintsSpec.post enc Tryz.prog Tryz.f4 false true false false) := by
  refine returnsInHanded_of_change_sized (C := Tryz.checked) own started (by kernel_rfl) Tryz.func4
    (ChangeSpec.witness6 (enc := enc) (C := Tryz.checked) false ⟨#[], #[.agg #[.int .u8 0, .slice none 0 0, .bool false], .agg #[.int .i64 0, .int .i64 0], .string ByteArray.empty], []⟩ 8 (by kernel_rfl) (by kernel_rfl) (by kernel_rfl) (by kernel_rfl)) ?_
  intro W base args ds gs before hval0 hW hcnd hsz0 _
  have hsz : (DataW.weightsEach Tryz.prog (Tryz.f4.params.toList ++ Rows.writeMintsSpec.plain.varTypes Tryz.prog) (ds ++ gs)).all (· ≤ reachBytes) = true := hsz0
  have hval : ∀ (j : Nat) t v, Tryz.f4.params[j]? = some t → args[j]? = some v → Value.okWide Tryz.prog W .any base t v := hval0
  clear hval0 hsz0 hcnd
  exact runs W base args ds gs before hval hW hsz
theorem facts : joinedFacts Tryz.prog 4 Tryz.f4 Rows.writeMintsSpec Rows.writeMintsRow = true := by
  unfold joinedFacts
  rw [Gm.Head.enter, Gm.Head.final, Gm.Head.made]
  kernel_rfl
theorem over : Rows.writeMintsRow.holds Tryz.pinned (OpenSpec.ofChange Rows.writeMintsSpec) :=
  OpenClaim.holds_of_wide 4 Tryz.f4 rfl rfl rfl rfl rfl rfl rfl ⟨rfl, rfl, rfl, rfl, rfl⟩ rfl rfl rfl rfl rfl (by kernel_rfl) Tryz.func4 facts
    (of_decide_eq_true (by kernel_rfl)) (by unfold Func.isWrapper; first | (rw [if_pos (by decide +kernel)]; kernel_rfl) | (rw [if_neg (by decide +kernel)]; exact ⟨rfl, rfl⟩))
    (fun os started H enc _ => lifted os started H enc)
theorem proved : Rows.WriteMintsSaid := over
end Go.Proofs.YtohdbkaolchifaaGreat.writeMints
namespace Go.Proofs.YtohdbkaolchifaaGreat
/-- The row, under a short name. -/
theorem writeMints_holds : Rows.WriteMintsSaid := writeMints.proved
#print axioms writeMints_holds
end Go.Proofs.YtohdbkaolchifaaGreat
