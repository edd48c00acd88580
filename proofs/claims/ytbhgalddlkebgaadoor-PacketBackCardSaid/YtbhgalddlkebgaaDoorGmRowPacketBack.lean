/- Whatever packet and text come in, PacketBack answers true and leaves them as they were; the variable errors.errorType holds what the text lays (tied), there is no other condition. -/
import Derived.Test.YtbhgalddlkebgaaDoorRows
import Derived.Test.YtbhgalddlkebgaaDoorCards
import Derived.Test.YtbhgalddlkebgaaDoorTie
import Derived.Test.YtbhgalddlkebgaaDoorGmVar
import Derived.Test.YtbhgalddlkebgaaDoorGmPt
import Derived.Test.YtbhgalddlkebgaaDoorGmHead
import Derived.ProofKit
import Derived.SizedLaws
import Derived.SevenTiedAt
namespace Go.Proofs.YtbhgalddlkebgaaDoor.packetBack
open Gm
theorem own : ownKnob Tryd.prog.godebug = none := by kernel_rfl
theorem laid : laidOutB Tryd.prog = true := by kernel_rfl
theorem reads : (Tryd.f5.params.toList.all fun t => Tryd.prog.readableRec t && decide (t < Tryd.prog.types.size)) = true := by kernel_rfl
theorem types : tysIs Tryd.prog [(.st 5), .str] Tryd.f5.params.toList = true := by kernel_rfl
theorem answer : Tryd.f5.resultTypes = #[4] := by kernel_rfl
theorem abool : Tryd.prog.underlying 4 = some .bool := by kernel_rfl
theorem same : E.P = Tryd.prog := rfl
theorem law (x : Dens [(.st 5), .str]) (hx : WfAll [(.st 5), .str] x) : law13_PacketBack.F x.1 x.2.1 (fun r => r = true) := law13_PacketBack_true hx.1.2.2.1 hx.1.2.1
theorem fits : ∀ (H : Type) (ds : List (DataW H)), ds.length = 2 → Rows.packetBackSpec.fn H ds = ⟨[.lit (.bool true)], ds, []⟩ := fun _ ds h => match ds, h with | [_, _], _ => rfl
set_option maxRecDepth 100000 in
theorem runs {H : Type} {encH : TypeId × Value → H} (W : World) (hv : E.V W) (base : Nat) (args : Array Value) (ds gs : List (DataW H)) (before : List MemPlace)
    (hok : ∀ (j : Nat) t v, Tryd.f5.params[j]? = some t → args[j]? = some v → Value.okWide Tryd.prog W .any base t v)
    (hW : DataW.Whole encH Tryd.prog Tryd.f5.params.toList Rows.packetBackSpec.vars false W args.toList ds gs before)
    (hw : (DataW.weightsEach Tryd.prog (Tryd.f5.params.toList ++ Rows.packetBackSpec.plain.varTypes Tryd.prog) (ds ++ gs)).all (· ≤ reachBytes) = true) :
    Calls Tryd.prog 5 args W fun e W' => ∃ v, e = .returned v ∧ Rows.packetBackSpec.post encH Tryd.prog Tryd.f5 false true false false W args v W' :=
  law_contract (E := E) (P := Tryd.prog) (us := [(.st 5), .str]) (F := fun x => law13_PacketBack.F x.1 x.2.1) (tb := 4) same law13_PacketBack.ground law13_PacketBack.loops law13_PacketBack.eq law laid reads types rfl answer abool fits W hv base args ds gs before hok hW hw
set_option maxRecDepth 100000 in
theorem lifted (os : Os) (started : os.Started) (H : Type) (enc : TypeId × Value → H) :
    ReturnsInHanded {} Tryd.checked os 5 .any (fun w args => (Rows.packetBackSpec.pre enc Tryd.prog Tryd.f5 [] false w args ∧ laidMetH Tryd.prog Rows.packetBackRow.laid w) ∧ sizedMet enc Tryd.prog Tryd.f5 (OpenSpec.ofChange Rows.packetBackSpec) false w args)
      (Rows.packetBackSpec.post enc Tryd.prog Tryd.f5 false true false false) := by
  refine returnsInHanded_of_change_and (C := Tryd.checked) (X := fun w _ => laidMetH Tryd.prog Rows.packetBackRow.laid w) (fun _ _ _ hh h => h.of_heap hh) own started (by kernel_rfl) Tryd.func5
    (ChangeSpec.witness_at (enc := enc) (C := Tryd.checked) (os := os) (X := fun w _ => laidMetH Tryd.prog Rows.packetBackRow.laid w) false (Var.laidWorld os) #[.agg #[.int .i64 0, .int .u64 0, .int .i64 0, .int .u64 0, .int .u64 0, .int .u64 0, .int .u64 0, .bool false, .bool false, .bool false, .bool false, .int .u32 0, .int .i64 0, .string ByteArray.empty], .string ByteArray.empty] 8 rfl (by kernel_rfl) (by kernel_rfl) (by kernel_rfl) (by kernel_rfl) (by kernel_rfl) (Var.laidWorld_met os _)) ?_
  intro W base args ds gs before hval0 hW hcnd hsz0 hL _
  have hsz : (DataW.weightsEach Tryd.prog (Tryd.f5.params.toList ++ Rows.packetBackSpec.plain.varTypes Tryd.prog) (ds ++ gs)).all (· ≤ reachBytes) = true := hsz0
  have hval : ∀ (j : Nat) t v, Tryd.f5.params[j]? = some t → args[j]? = some v → Value.okWide Tryd.prog W .any base t v := hval0
  clear hval0 hsz0 hcnd
  exact runs W (Var.has_of_laid hL) base args ds gs before hval hW hsz
theorem facts : joinedFacts Tryd.prog 5 Tryd.f5 Rows.packetBackSpec Rows.packetBackRow = true := by
  unfold joinedFacts
  rw [Gm.Head.enter, Gm.Head.final, Gm.Head.made]
  kernel_rfl
theorem over : Rows.packetBackRow.holds Tryd.pinned (OpenSpec.ofChange Rows.packetBackSpec) :=
  OpenClaim.holds_of_wide 5 Tryd.f5 rfl rfl rfl rfl rfl rfl rfl ⟨rfl, rfl, rfl, rfl, rfl⟩ rfl rfl rfl rfl rfl (by kernel_rfl) Tryd.func5 facts
    (of_decide_eq_true (by kernel_rfl)) (by unfold Func.isWrapper; first | (rw [if_pos (by decide +kernel)]; kernel_rfl) | (rw [if_neg (by decide +kernel)]; exact ⟨rfl, rfl⟩))
    (fun os started H enc _ => lifted os started H enc)
theorem proved : Rows.PacketBackSaid := over
theorem card : Rows.PacketBackCardSaid :=
  Claim7.holds_tied_plain_at .later [] [.handle] true (true, "1d5778ce1d2f8c26d8eb397f2a5a6695fbe35a796b4d0e170f03bb89d4abfd1d") true
    proved (fun _ h => by cases h) (by kernel_rfl) (fun _ h => by cases h) packetBack_row_tie rfl ⟨rfl, rfl⟩ (by kernel_rfl) rfl
    (fun f fn hf hfn => by
      obtain rfl : f = 5 := Option.some.inj ((show Tryd.prog.funcNamed "gemination/geminationlaw13.PacketBack" = some 5 by kernel_rfl).symm.trans hf) |>.symm
      obtain rfl : fn = Tryd.f5 := (Option.some.inj (Tryd.func5.symm.trans hfn)).symm
      exact ⟨by kernel_rfl, fun j t ht => by
        rw [Tryd.params5] at ht
        match j, ht with
        | 0, ht => obtain rfl : t = 30 := by simpa using ht.symm
                   exact (show Tryd.prog.wantsStandIn 30 = false by kernel_rfl)
        | 1, ht => obtain rfl : t = 9 := by simpa using ht.symm
                   exact (show Tryd.prog.wantsStandIn 9 = false by kernel_rfl)
        | j + 2, ht => simp at ht⟩)
    (by kernel_rfl)
end Go.Proofs.YtbhgalddlkebgaaDoor.packetBack
namespace Go.Proofs.YtbhgalddlkebgaaDoor
/-- The card, under a short name. -/
theorem packetBack_card_holds : Rows.PacketBackCardSaid := packetBack.card
#print axioms packetBack_card_holds
end Go.Proofs.YtbhgalddlkebgaaDoor
