/- Whatever numbers and acts come in, StoreActs answers true and leaves them as they were; the variable errors.errorType holds what the text lays (tied), there is no other condition. -/
import Derived.Test.YtfjhdboapcckpaaGreatDoorRows
import Derived.Test.YtfjhdboapcckpaaGreatDoorCards
import Derived.Test.YtfjhdboapcckpaaGreatDoorTie
import Derived.ProofKit
import Derived.SizedLaws
import Derived.SevenTiedAt
import Derived.Test.YtfjhdboapcckpaaGreatDoorGdNv
import Derived.Test.YtfjhdboapcckpaaGreatDoorGdK2
import Derived.Test.YtfjhdboapcckpaaGreatDoorGdHead
namespace Go.Proofs.YtfjhdboapcckpaaGreatDoor.storeActs
open Gm
theorem own : ownKnob Tryz.prog.godebug = none := by kernel_rfl
theorem laid : laidOutB Tryz.prog = true := by kernel_rfl
theorem reads : (Tryz.f8.params.toList.all fun t => Tryz.prog.readableRec t && decide (t < Tryz.prog.types.size)) = true := by kernel_rfl
theorem types : tysIs Tryz.prog [(.int .u8), (.slice (.st 20)), (.int .u8)] Tryz.f8.params.toList = true := by kernel_rfl
theorem answer : Tryz.f8.resultTypes = #[4] := by kernel_rfl
theorem abool : Tryz.prog.underlying 4 = some .bool := by kernel_rfl
theorem same : E.P = Tryz.prog := rfl
theorem law (x : Dens [(.int .u8), (.slice (.st 20)), (.int .u8)]) (hx : WfAll [(.int .u8), (.slice (.st 20)), (.int .u8)] x) : q122.F x.1 x.2.1 x.2.2.1 (fun r => r = true) := StoreActs_ok hx.1 hx.2.2.1 (fun a h => ⟨(hx.2.1.2 a h).2.2.1, (hx.2.1.2 a h).2.2.2.2⟩) rfl
theorem fits : ∀ (H : Type) (ds : List (DataW H)), ds.length = 3 → Rows.storeActsSpec.fn H ds = ⟨[.lit (.bool true)], ds, []⟩ := fun _ ds h => match ds, h with | [_, _, _], _ => rfl
set_option maxRecDepth 100000 in
theorem runs {H : Type} {encH : TypeId × Value → H} (W : World) (hv : E.V W) (base : Nat) (args : Array Value) (ds gs : List (DataW H)) (before : List MemPlace)
    (hok : ∀ (j : Nat) t v, Tryz.f8.params[j]? = some t → args[j]? = some v → Value.okWide Tryz.prog W .any base t v)
    (hW : DataW.Whole encH Tryz.prog Tryz.f8.params.toList Rows.storeActsSpec.vars false W args.toList ds gs before)
    (hw : (DataW.weightsEach Tryz.prog (Tryz.f8.params.toList ++ Rows.storeActsSpec.plain.varTypes Tryz.prog) (ds ++ gs)).all (· ≤ reachBytes) = true) :
    Calls Tryz.prog 8 args W fun e W' => ∃ v, e = .returned v ∧ Rows.storeActsSpec.post encH Tryz.prog Tryz.f8 false true false false W args v W' :=
  law_contract (E := E) (P := Tryz.prog) (us := [(.int .u8), (.slice (.st 20)), (.int .u8)]) (F := fun x => q122.F x.1 x.2.1 x.2.2.1) (tb := 4) same q122.ground q122.loops q122.eq law laid reads types rfl answer abool fits W hv base args ds gs before hok hW hw
set_option maxRecDepth 100000 in
theorem lifted (os : Os) (started : os.Started) (H : Type) (enc : TypeId × Value → H) :
    ReturnsInHanded {} Tryz.checked os 8 .any (fun w args => (Rows.storeActsSpec.pre enc Tryz.prog Tryz.f8 [] false w args ∧ laidMetH Tryz.prog Rows.storeActsRow.laid w) ∧ sizedMet enc Tryz.prog Tryz.f8 (OpenSpec.ofChange Rows.storeActsSpec) false w args)
      (Rows.storeActsSpec.post enc Tryz.prog Tryz.f8 false true false false) := by
  refine returnsInHanded_of_change_and (C := Tryz.checked) (X := fun w _ => laidMetH Tryz.prog Rows.storeActsRow.laid w) (fun _ _ _ hh h => h.of_heap hh) own started (by kernel_rfl) Tryz.func8
    (ChangeSpec.witness_at (enc := enc) (C := Tryz.checked) (os := os) (X := fun w _ => laidMetH Tryz.prog Rows.storeActsRow.laid w) false (Var.laidWorld os) #[.int .u8 0, .slice none 0 0, .int .u8 0] 8 rfl (by kernel_rfl) (by kernel_rfl) (by kernel_rfl) (by kernel_rfl) (by kernel_rfl) (Var.laidWorld_met os _)) ?_
  intro W base args ds gs before hval0 hW hcnd hsz0 hL _
  have hsz : (DataW.weightsEach Tryz.prog (Tryz.f8.params.toList ++ Rows.storeActsSpec.plain.varTypes Tryz.prog) (ds ++ gs)).all (· ≤ reachBytes) = true := hsz0
  have hval : ∀ (j : Nat) t v, Tryz.f8.params[j]? = some t → args[j]? = some v → Value.okWide Tryz.prog W .any base t v := hval0
  clear hval0 hsz0 hcnd
  exact runs W (Var.has_of_laid hL) base args ds gs before hval hW hsz
theorem facts : joinedFacts Tryz.prog 8 Tryz.f8 Rows.storeActsSpec Rows.storeActsRow = true := by
  unfold joinedFacts
  rw [Gm.Head.enter, Gm.Head.final, Gm.Head.made]
  kernel_rfl
theorem over : Rows.storeActsRow.holds Tryz.pinned (OpenSpec.ofChange Rows.storeActsSpec) :=
  OpenClaim.holds_of_wide 8 Tryz.f8 rfl rfl rfl rfl rfl rfl rfl ⟨rfl, rfl, rfl, rfl, rfl⟩ rfl rfl rfl rfl rfl (by kernel_rfl) Tryz.func8 facts
    (of_decide_eq_true (by kernel_rfl)) (by unfold Func.isWrapper; first | (rw [if_pos (by decide +kernel)]; kernel_rfl) | (rw [if_neg (by decide +kernel)]; exact ⟨rfl, rfl⟩))
    (fun os started H enc _ => lifted os started H enc)
theorem proved : Rows.StoreActsSaid := over
theorem wf : Rows.storeActsRow.wfByText (OpenSpec.ofChange Rows.storeActsSpec) = true := by kernel_rfl
theorem main : Tryz.prog.mainIs = some (true, "c363b7e507fb599fabae40dc166269fa1ff9f4ee879f3c489666fe7c43f61bd1".toList) := by
  unfold Program.mainIs
  rw [Gm.Head.words_ok]
  kernel_rfl
theorem named : Tryz.prog.funcNamed "gemination/geminationlaw15.StoreActs" = some 8 := by kernel_rfl
theorem looks : true = Tryz.prog.looks [] := by kernel_rfl
theorem goes : false = Rows.storeActsRow.goesBy Tryz.prog := by kernel_rfl
theorem card : Rows.StoreActsCardSaid :=
  Claim7.holds_tied_plain_at .later [] [.handle] true (true, "c363b7e507fb599fabae40dc166269fa1ff9f4ee879f3c489666fe7c43f61bd1") true
    proved (fun _ h => by cases h) wf (fun _ h => by cases h) storeActs_row_tie rfl ⟨rfl, rfl⟩ main rfl
    (fun f fn hf hfn => by
      obtain rfl : f = 8 := Option.some.inj (named.symm.trans hf) |>.symm
      obtain rfl : fn = Tryz.f8 := (Option.some.inj (Tryz.func8.symm.trans hfn)).symm
      exact ⟨looks, fun j t ht => by
        rw [Tryz.params8] at ht
        match j, ht with
        | 0, ht => obtain rfl : t = 5 := by simpa using ht.symm
                   exact (show Tryz.prog.wantsStandIn 5 = false by kernel_rfl)
        | 1, ht => obtain rfl : t = 74 := by simpa using ht.symm
                   exact (show Tryz.prog.wantsStandIn 74 = false by kernel_rfl)
        | 2, ht => obtain rfl : t = 5 := by simpa using ht.symm
                   exact (show Tryz.prog.wantsStandIn 5 = false by kernel_rfl)
        | j + 3, ht => simp at ht⟩)
    goes
end Go.Proofs.YtfjhdboapcckpaaGreatDoor.storeActs
namespace Go.Proofs.YtfjhdboapcckpaaGreatDoor
/-- The card, under a short name. -/
theorem storeActs_card_holds : Rows.StoreActsCardSaid := storeActs.card
#print axioms storeActs_card_holds
end Go.Proofs.YtfjhdboapcckpaaGreatDoor
