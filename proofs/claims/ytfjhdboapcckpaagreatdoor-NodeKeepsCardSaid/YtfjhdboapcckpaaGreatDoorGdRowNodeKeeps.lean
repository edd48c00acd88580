/- Whatever cluster, side and number come in, NodeKeeps answers true and leaves them as they were; the variable errors.errorType holds what the text lays (tied), there is no other condition. -/
import Derived.Test.YtfjhdboapcckpaaGreatDoorRows
import Derived.Test.YtfjhdboapcckpaaGreatDoorCards
import Derived.Test.YtfjhdboapcckpaaGreatDoorTie
import Derived.ProofKit
import Derived.SizedLaws
import Derived.SevenTiedAt
import Derived.Test.YtfjhdboapcckpaaGreatDoorGdNv
import Derived.Test.YtfjhdboapcckpaaGreatDoorGdN8
import Derived.Test.YtfjhdboapcckpaaGreatDoorGdHead
namespace Go.Proofs.YtfjhdboapcckpaaGreatDoor.nodeKeeps
open Gm
theorem own : ownKnob Tryz.prog.godebug = none := by kernel_rfl
theorem laid : laidOutB Tryz.prog = true := by kernel_rfl
theorem reads : (Tryz.f6.params.toList.all fun t => Tryz.prog.readableRec t && decide (t < Tryz.prog.types.size)) = true := by kernel_rfl
theorem types : tysIs Tryz.prog [(.st 16), (.int .i64)] Tryz.f6.params.toList = true := by kernel_rfl
theorem answer : Tryz.f6.resultTypes = #[4] := by kernel_rfl
theorem abool : Tryz.prog.underlying 4 = some .bool := by kernel_rfl
theorem same : E.P = Tryz.prog := rfl
theorem law (x : Dens [(.st 16), (.int .i64)]) (hx : WfAll [(.st 16), (.int .i64)] x) : q191.F x.1 x.2.1 (fun r => r = true) := NodeKeeps_ok (inK_pos hx.1.1) (fun e h => (hx.1.2.2 e h).2.2.2.2.2.1) rfl
theorem fits : ∀ (H : Type) (ds : List (DataW H)), ds.length = 2 → Rows.nodeKeepsSpec.fn H ds = ⟨[.lit (.bool true)], ds, []⟩ := fun _ ds h => match ds, h with | [_, _], _ => rfl
set_option maxRecDepth 100000 in
theorem runs {H : Type} {encH : TypeId × Value → H} (W : World) (hv : E.V W) (base : Nat) (args : Array Value) (ds gs : List (DataW H)) (before : List MemPlace)
    (hok : ∀ (j : Nat) t v, Tryz.f6.params[j]? = some t → args[j]? = some v → Value.okWide Tryz.prog W .any base t v)
    (hW : DataW.Whole encH Tryz.prog Tryz.f6.params.toList Rows.nodeKeepsSpec.vars false W args.toList ds gs before)
    (hw : (DataW.weightsEach Tryz.prog (Tryz.f6.params.toList ++ Rows.nodeKeepsSpec.plain.varTypes Tryz.prog) (ds ++ gs)).all (· ≤ reachBytes) = true) :
    Calls Tryz.prog 6 args W fun e W' => ∃ v, e = .returned v ∧ Rows.nodeKeepsSpec.post encH Tryz.prog Tryz.f6 false true false false W args v W' :=
  law_contract (E := E) (P := Tryz.prog) (us := [(.st 16), (.int .i64)]) (F := fun x => q191.F x.1 x.2.1) (tb := 4) same q191.ground q191.loops q191.eq law laid reads types rfl answer abool fits W hv base args ds gs before hok hW hw
set_option maxRecDepth 100000 in
theorem lifted (os : Os) (started : os.Started) (H : Type) (enc : TypeId × Value → H) :
    ReturnsInHanded {} Tryz.checked os 6 .any (fun w args => (Rows.nodeKeepsSpec.pre enc Tryz.prog Tryz.f6 [] false w args ∧ laidMetH Tryz.prog Rows.nodeKeepsRow.laid w) ∧ sizedMet enc Tryz.prog Tryz.f6 (OpenSpec.ofChange Rows.nodeKeepsSpec) false w args)
      (Rows.nodeKeepsSpec.post enc Tryz.prog Tryz.f6 false true false false) := by
  refine returnsInHanded_of_change_and (C := Tryz.checked) (X := fun w _ => laidMetH Tryz.prog Rows.nodeKeepsRow.laid w) (fun _ _ _ hh h => h.of_heap hh) own started (by kernel_rfl) Tryz.func6
    (ChangeSpec.witness_at (enc := enc) (C := Tryz.checked) (os := os) (X := fun w _ => laidMetH Tryz.prog Rows.nodeKeepsRow.laid w) false (Var.laidWorld os) #[.agg #[.int .u8 0, .slice none 0 0, .bool false], .int .i64 0] 8 rfl (by kernel_rfl) (by kernel_rfl) (by kernel_rfl) (by kernel_rfl) (by kernel_rfl) (Var.laidWorld_met os _)) ?_
  intro W base args ds gs before hval0 hW hcnd hsz0 hL _
  have hsz : (DataW.weightsEach Tryz.prog (Tryz.f6.params.toList ++ Rows.nodeKeepsSpec.plain.varTypes Tryz.prog) (ds ++ gs)).all (· ≤ reachBytes) = true := hsz0
  have hval : ∀ (j : Nat) t v, Tryz.f6.params[j]? = some t → args[j]? = some v → Value.okWide Tryz.prog W .any base t v := hval0
  clear hval0 hsz0 hcnd
  exact runs W (Var.has_of_laid hL) base args ds gs before hval hW hsz
theorem facts : joinedFacts Tryz.prog 6 Tryz.f6 Rows.nodeKeepsSpec Rows.nodeKeepsRow = true := by
  unfold joinedFacts
  rw [Gm.Head.enter, Gm.Head.final, Gm.Head.made]
  kernel_rfl
theorem over : Rows.nodeKeepsRow.holds Tryz.pinned (OpenSpec.ofChange Rows.nodeKeepsSpec) :=
  OpenClaim.holds_of_wide 6 Tryz.f6 rfl rfl rfl rfl rfl rfl rfl ⟨rfl, rfl, rfl, rfl, rfl⟩ rfl rfl rfl rfl rfl (by kernel_rfl) Tryz.func6 facts
    (of_decide_eq_true (by kernel_rfl)) (by unfold Func.isWrapper; first | (rw [if_pos (by decide +kernel)]; kernel_rfl) | (rw [if_neg (by decide +kernel)]; exact ⟨rfl, rfl⟩))
    (fun os started H enc _ => lifted os started H enc)
theorem proved : Rows.NodeKeepsSaid := over
theorem wf : Rows.nodeKeepsRow.wfByText (OpenSpec.ofChange Rows.nodeKeepsSpec) = true := by kernel_rfl
theorem main : Tryz.prog.mainIs = some (true, "c363b7e507fb599fabae40dc166269fa1ff9f4ee879f3c489666fe7c43f61bd1".toList) := by
  unfold Program.mainIs
  rw [Gm.Head.words_ok]
  kernel_rfl
theorem named : Tryz.prog.funcNamed "gemination/geminationlaw16.NodeKeeps" = some 6 := by kernel_rfl
theorem looks : true = Tryz.prog.looks [] := by kernel_rfl
theorem goes : false = Rows.nodeKeepsRow.goesBy Tryz.prog := by kernel_rfl
theorem card : Rows.NodeKeepsCardSaid :=
  Claim7.holds_tied_plain_at .later [] [.handle] true (true, "c363b7e507fb599fabae40dc166269fa1ff9f4ee879f3c489666fe7c43f61bd1") true
    proved (fun _ h => by cases h) wf (fun _ h => by cases h) nodeKeeps_row_tie rfl ⟨rfl, rfl⟩ main rfl
    (fun f fn hf hfn => by
      obtain rfl : f = 6 := Option.some.inj (named.symm.trans hf) |>.symm
      obtain rfl : fn = Tryz.f6 := (Option.some.inj (Tryz.func6.symm.trans hfn)).symm
      exact ⟨looks, fun j t ht => by
        rw [Tryz.params6] at ht
        match j, ht with
        | 0, ht => obtain rfl : t = 24 := by simpa using ht.symm
                   exact (show Tryz.prog.wantsStandIn 24 = false by kernel_rfl)
        | 1, ht => obtain rfl : t = 3 := by simpa using ht.symm
                   exact (show Tryz.prog.wantsStandIn 3 = false by kernel_rfl)
        | j + 2, ht => simp at ht⟩)
    goes
end Go.Proofs.YtfjhdboapcckpaaGreatDoor.nodeKeeps
namespace Go.Proofs.YtfjhdboapcckpaaGreatDoor
/-- The card, under a short name. -/
theorem nodeKeeps_card_holds : Rows.NodeKeepsCardSaid := nodeKeeps.card
#print axioms nodeKeeps_card_holds
end Go.Proofs.YtfjhdboapcckpaaGreatDoor
