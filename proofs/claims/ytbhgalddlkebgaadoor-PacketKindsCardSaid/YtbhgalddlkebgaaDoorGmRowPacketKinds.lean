/- Whatever packet comes in, PacketKinds answers true and leaves it as it was; the variable errors.errorType holds what the text lays (tied), there is no other condition. -/
import Derived.Test.YtbhgalddlkebgaaDoorRows
import Derived.Test.YtbhgalddlkebgaaDoorCards
import Derived.Test.YtbhgalddlkebgaaDoorTie
import Derived.Test.YtbhgalddlkebgaaDoorGmVar
import Derived.Test.YtbhgalddlkebgaaDoorGmPt
import Derived.Test.YtbhgalddlkebgaaDoorGmHead
import Derived.ProofKit
import Derived.SizedLaws
import Derived.SevenTiedAt
namespace Go.Proofs.YtbhgalddlkebgaaDoor.packetKinds
open Gm
theorem own : ownKnob Tryd.prog.godebug = none := by kernel_rfl
theorem laid : laidOutB Tryd.prog = true := by kernel_rfl
theorem reads : (Tryd.f6.params.toList.all fun t => Tryd.prog.readableRec t && decide (t < Tryd.prog.types.size)) = true := by kernel_rfl
theorem types : tysIs Tryd.prog [(.st 5)] Tryd.f6.params.toList = true := by kernel_rfl
theorem answer : Tryd.f6.resultTypes = #[4] := by kernel_rfl
theorem abool : Tryd.prog.underlying 4 = some .bool := by kernel_rfl
theorem same : E.P = Tryd.prog := rfl
theorem law (x : Dens [(.st 5)]) (hx : WfAll [(.st 5)] x) : law13_PacketKinds.F x.1 (fun r => r = true) := law13_PacketKinds_true hx.1.2.2.1 hx.1.2.1
theorem fits : ∀ (H : Type) (ds : List (DataW H)), ds.length = 1 → Rows.packetKindsSpec.fn H ds = ⟨[.lit (.bool true)], ds, []⟩ := fun _ ds h => match ds, h with | [_], _ => rfl
set_option maxRecDepth 100000 in
theorem runs {H : Type} {encH : TypeId × Value → H} (W : World) (hv : E.V W) (base : Nat) (args : Array Value) (ds gs : List (DataW H)) (before : List MemPlace)
    (hok : ∀ (j : Nat) t v, Tryd.f6.params[j]? = some t → args[j]? = some v → Value.okWide Tryd.prog W .any base t v)
    (hW : DataW.Whole encH Tryd.prog Tryd.f6.params.toList Rows.packetKindsSpec.vars false W args.toList ds gs before)
    (hw : (DataW.weightsEach Tryd.prog (Tryd.f6.params.toList ++ Rows.packetKindsSpec.plain.varTypes Tryd.prog) (ds ++ gs)).all (· ≤ reachBytes) = true) :
    Calls Tryd.prog 6 args W fun e W' => ∃ v, e = .returned v ∧ Rows.packetKindsSpec.post encH Tryd.prog Tryd.f6 false true false false W args v W' :=
  law_contract (E := E) (P := Tryd.prog) (us := [(.st 5)]) (F := fun x => law13_PacketKinds.F x.1) (tb := 4) same law13_PacketKinds.ground law13_PacketKinds.loops law13_PacketKinds.eq law laid reads types rfl answer abool fits W hv base args ds gs before hok hW hw
set_option maxRecDepth 100000 in
theorem lifted (os : Os) (started : os.Started) (H : Type) (enc : TypeId × Value → H) :
    ReturnsInHanded {} Tryd.checked os 6 .any (fun w args => (Rows.packetKindsSpec.pre enc Tryd.prog Tryd.f6 [] false w args ∧ laidMetH Tryd.prog Rows.packetKindsRow.laid w) ∧ sizedMet enc Tryd.prog Tryd.f6 (OpenSpec.ofChange Rows.packetKindsSpec) false w args)
      (Rows.packetKindsSpec.post enc Tryd.prog Tryd.f6 false true false false) := by
  refine returnsInHanded_of_change_and (C := Tryd.checked) (X := fun w _ => laidMetH Tryd.prog Rows.packetKindsRow.laid w) (fun _ _ _ hh h => h.of_heap hh) own started (by kernel_rfl) Tryd.func6
    (ChangeSpec.witness_at (enc := enc) (C := Tryd.checked) (os := os) (X := fun w _ => laidMetH Tryd.prog Rows.packetKindsRow.laid w) false (Var.laidWorld os) #[.agg #[.int .i64 0, .int .u64 0, .int .i64 0, .int .u64 0, .int .u64 0, .int .u64 0, .int .u64 0, .bool false, .bool false, .bool false, .bool false, .int .u32 0, .int .i64 0, .string ByteArray.empty]] 8 rfl (by kernel_rfl) (by kernel_rfl) (by kernel_rfl) (by kernel_rfl) (by kernel_rfl) (Var.laidWorld_met os _)) ?_
  intro W base args ds gs before hval0 hW hcnd hsz0 hL _
  have hsz : (DataW.weightsEach Tryd.prog (Tryd.f6.params.toList ++ Rows.packetKindsSpec.plain.varTypes Tryd.prog) (ds ++ gs)).all (· ≤ reachBytes) = true := hsz0
  have hval : ∀ (j : Nat) t v, Tryd.f6.params[j]? = some t → args[j]? = some v → Value.okWide Tryd.prog W .any base t v := hval0
  clear hval0 hsz0 hcnd
  exact runs W (Var.has_of_laid hL) base args ds gs before hval hW hsz
theorem facts : joinedFacts Tryd.prog 6 Tryd.f6 Rows.packetKindsSpec Rows.packetKindsRow = true := by
  unfold joinedFacts
  rw [Gm.Head.enter, Gm.Head.final, Gm.Head.made]
  kernel_rfl
theorem over : Rows.packetKindsRow.holds Tryd.pinned (OpenSpec.ofChange Rows.packetKindsSpec) :=
  OpenClaim.holds_of_wide 6 Tryd.f6 rfl rfl rfl rfl rfl rfl rfl ⟨rfl, rfl, rfl, rfl, rfl⟩ rfl rfl rfl rfl rfl (by kernel_rfl) Tryd.func6 facts
    (of_decide_eq_true (by kernel_rfl)) (by unfold Func.isWrapper; first | (rw [if_pos (by decide +kernel)]; kernel_rfl) | (rw [if_neg (by decide +kernel)]; exact ⟨rfl, rfl⟩))
    (fun os started H enc _ => lifted os started H enc)
theorem proved : Rows.PacketKindsSaid := over
theorem card : Rows.PacketKindsCardSaid :=
  Claim7.holds_tied_plain_at .later [] [.handle] true (true, "1d5778ce1d2f8c26d8eb397f2a5a6695fbe35a796b4d0e170f03bb89d4abfd1d") true
    proved (fun _ h => by cases h) (by kernel_rfl) (fun _ h => by cases h) packetKinds_row_tie rfl ⟨rfl, rfl⟩ (by kernel_rfl) rfl
    (fun f fn hf hfn => by
      obtain rfl : f = 6 := Option.some.inj ((show Tryd.prog.funcNamed "gemination/geminationlaw13.PacketKinds" = some 6 by kernel_rfl).symm.trans hf) |>.symm
      obtain rfl : fn = Tryd.f6 := (Option.some.inj (Tryd.func6.symm.trans hfn)).symm
      exact ⟨by kernel_rfl, fun j t ht => by
        rw [Tryd.params6] at ht
        match j, ht with
        | 0, ht => obtain rfl : t = 30 := by simpa using ht.symm
                   exact (show Tryd.prog.wantsStandIn 30 = false by kernel_rfl)
        | j + 1, ht => simp at ht⟩)
    (by kernel_rfl)
end Go.Proofs.YtbhgalddlkebgaaDoor.packetKinds
namespace Go.Proofs.YtbhgalddlkebgaaDoor
/-- The card, under a short name. -/
theorem packetKinds_card_holds : Rows.PacketKindsCardSaid := packetKinds.card
#print axioms packetKinds_card_holds
end Go.Proofs.YtbhgalddlkebgaaDoor
