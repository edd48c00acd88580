/- Whatever text and number come in, PacketDecodes answers true and leaves them as they were; the variable errors.errorType holds what the text lays (tied), there is no other condition. -/
import Derived.Test.YtbhgalddlkebgaaDoorRows
import Derived.Test.YtbhgalddlkebgaaDoorCards
import Derived.Test.YtbhgalddlkebgaaDoorTie
import Derived.Test.YtbhgalddlkebgaaDoorGmVar
import Derived.Test.YtbhgalddlkebgaaDoorGmPt
import Derived.Test.YtbhgalddlkebgaaDoorGmHead
import Derived.ProofKit
import Derived.SizedLaws
import Derived.SevenTiedAt
namespace Go.Proofs.YtbhgalddlkebgaaDoor.packetDecodes
open Gm
theorem own : ownKnob Tryd.prog.godebug = none := by kernel_rfl
theorem laid : laidOutB Tryd.prog = true := by kernel_rfl
theorem reads : (Tryd.f4.params.toList.all fun t => Tryd.prog.readableRec t && decide (t < Tryd.prog.types.size)) = true := by kernel_rfl
theorem types : tysIs Tryd.prog [.str, (.int .u64)] Tryd.f4.params.toList = true := by kernel_rfl
theorem answer : Tryd.f4.resultTypes = #[4] := by kernel_rfl
theorem abool : Tryd.prog.underlying 4 = some .bool := by kernel_rfl
theorem same : E.P = Tryd.prog := rfl
theorem law (x : Dens [.str, (.int .u64)]) (_ : WfAll [.str, (.int .u64)] x) : law13_PacketDecodes.F x.1 x.2.1 (fun r => r = true) := law13_PacketDecodes_true
theorem fits : ∀ (H : Type) (ds : List (DataW H)), ds.length = 2 → Rows.packetDecodesSpec.fn H ds = ⟨[.lit (.bool true)], ds, []⟩ := fun _ ds h => match ds, h with | [_, _], _ => rfl
set_option maxRecDepth 100000 in
theorem runs {H : Type} {encH : TypeId × Value → H} (W : World) (hv : E.V W) (base : Nat) (args : Array Value) (ds gs : List (DataW H)) (before : List MemPlace)
    (hok : ∀ (j : Nat) t v, Tryd.f4.params[j]? = some t → args[j]? = some v → Value.okWide Tryd.prog W .any base t v)
    (hW : DataW.Whole encH Tryd.prog Tryd.f4.params.toList Rows.packetDecodesSpec.vars false W args.toList ds gs before)
    (hw : (DataW.weightsEach Tryd.prog (Tryd.f4.params.toList ++ Rows.packetDecodesSpec.plain.varTypes Tryd.prog) (ds ++ gs)).all (· ≤ reachBytes) = true) :
    Calls Tryd.prog 4 args W fun e W' => ∃ v, e = .returned v ∧ Rows.packetDecodesSpec.post encH Tryd.prog Tryd.f4 false true false false W args v W' :=
  law_contract (E := E) (P := Tryd.prog) (us := [.str, (.int .u64)]) (F := fun x => law13_PacketDecodes.F x.1 x.2.1) (tb := 4) same law13_PacketDecodes.ground law13_PacketDecodes.loops law13_PacketDecodes.eq law laid reads types rfl answer abool fits W hv base args ds gs before hok hW hw
set_option maxRecDepth 100000 in
theorem lifted (os : Os) (started : os.Started) (H : Type) (enc : TypeId × Value → H) :
    ReturnsInHanded {} Tryd.checked os 4 .any (fun w args => (Rows.packetDecodesSpec.pre enc Tryd.prog Tryd.f4 [] false w args ∧ laidMetH Tryd.prog Rows.packetDecodesRow.laid w) ∧ sizedMet enc Tryd.prog Tryd.f4 (OpenSpec.ofChange Rows.packetDecodesSpec) false w args)
      (Rows.packetDecodesSpec.post enc Tryd.prog Tryd.f4 false true false false) := by
  refine returnsInHanded_of_change_and (C := Tryd.checked) (X := fun w _ => laidMetH Tryd.prog Rows.packetDecodesRow.laid w) (fun _ _ _ hh h => h.of_heap hh) own started (by kernel_rfl) Tryd.func4
    (ChangeSpec.witness_at (enc := enc) (C := Tryd.checked) (os := os) (X := fun w _ => laidMetH Tryd.prog Rows.packetDecodesRow.laid w) false (Var.laidWorld os) #[.string ByteArray.empty, .int .u64 0] 8 rfl (by kernel_rfl) (by kernel_rfl) (by kernel_rfl) (by kernel_rfl) (by kernel_rfl) (Var.laidWorld_met os _)) ?_
  intro W base args ds gs before hval0 hW hcnd hsz0 hL _
  have hsz : (DataW.weightsEach Tryd.prog (Tryd.f4.params.toList ++ Rows.packetDecodesSpec.plain.varTypes Tryd.prog) (ds ++ gs)).all (· ≤ reachBytes) = true := hsz0
  have hval : ∀ (j : Nat) t v, Tryd.f4.params[j]? = some t → args[j]? = some v → Value.okWide Tryd.prog W .any base t v := hval0
  clear hval0 hsz0 hcnd
  exact runs W (Var.has_of_laid hL) base args ds gs before hval hW hsz
theorem facts : joinedFacts Tryd.prog 4 Tryd.f4 Rows.packetDecodesSpec Rows.packetDecodesRow = true := by
  unfold joinedFacts
  rw [Gm.Head.enter, Gm.Head.final, Gm.Head.made]
  kernel_rfl
theorem over : Rows.packetDecodesRow.holds Tryd.pinned (OpenSpec.ofChange Rows.packetDecodesSpec) :=
  OpenClaim.holds_of_wide 4 Tryd.f4 rfl rfl rfl rfl rfl rfl rfl ⟨rfl, rfl, rfl, rfl, rfl⟩ rfl rfl rfl rfl rfl (by kernel_rfl) Tryd.func4 facts
    (of_decide_eq_true (by kernel_rfl)) (by unfold Func.isWrapper; first | (rw [if_pos (by decide +kernel)]; kernel_rfl) | (rw [if_neg (by decide +kernel)]; exact ⟨rfl, rfl⟩))
    (fun os started H enc _ => lifted os started H enc)
theorem proved : Rows.PacketDecodesSaid := over
theorem card : Rows.PacketDecodesCardSaid :=
  Claim7.holds_tied_plain_at .later [] [.handle] true (true, "1d5778ce1d2f8c26d8eb397f2a5a6695fbe35a796b4d0e170f03bb89d4abfd1d") true
    proved (fun _ h => by cases h) (by kernel_rfl) (fun _ h => by cases h) packetDecodes_row_tie rfl ⟨rfl, rfl⟩ (by kernel_rfl) rfl
    (fun f fn hf hfn => by
      obtain rfl : f = 4 := Option.some.inj ((show Tryd.prog.funcNamed "gemination/geminationlaw13.PacketDecodes" = some 4 by kernel_rfl).symm.trans hf) |>.symm
      obtain rfl : fn = Tryd.f4 := (Option.some.inj (Tryd.func4.symm.trans hfn)).symm
      exact ⟨by kernel_rfl, fun j t ht => by
        rw [Tryd.params4] at ht
        match j, ht with
        | 0, ht => obtain rfl : t = 9 := by simpa using ht.symm
                   exact (show Tryd.prog.wantsStandIn 9 = false by kernel_rfl)
        | 1, ht => obtain rfl : t = 22 := by simpa using ht.symm
                   exact (show Tryd.prog.wantsStandIn 22 = false by kernel_rfl)
        | j + 2, ht => simp at ht⟩)
    (by kernel_rfl)
end Go.Proofs.YtbhgalddlkebgaaDoor.packetDecodes
namespace Go.Proofs.YtbhgalddlkebgaaDoor
/-- The card, under a short name. -/
theorem packetDecodes_card_holds : Rows.PacketDecodesCardSaid := packetDecodes.card
#print axioms packetDecodes_card_holds
end Go.Proofs.YtbhgalddlkebgaaDoor
