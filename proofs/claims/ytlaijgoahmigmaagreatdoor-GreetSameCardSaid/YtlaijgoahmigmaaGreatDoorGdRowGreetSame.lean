/- Whatever cluster and session come in, GreetSame answers true and leaves them as they were, where the table of bits is as the program lays it. -/
import Derived.Test.YtlaijgoahmigmaaGreatDoorRows
import Derived.Test.YtlaijgoahmigmaaGreatDoorCards
import Derived.Test.YtlaijgoahmigmaaGreatDoorTie
import Derived.ProofKit
import Derived.SizedLaws
import Derived.SevenTiedAt
import Derived.Test.YtlaijgoahmigmaaGreatDoorGdTz
import Derived.Test.YtlaijgoahmigmaaGreatDoorGdG3
import Derived.Test.YtlaijgoahmigmaaGreatDoorGdHead
namespace Go.Proofs.YtlaijgoahmigmaaGreatDoor.greetSame
open Gm
theorem own : ownKnob Tryz.prog.godebug = none := by kernel_rfl
theorem laid : laidOutB Tryz.prog = true := by kernel_rfl
theorem reads : (Tryz.f7.params.toList.all fun t => Tryz.prog.readableRec t && decide (t < Tryz.prog.types.size)) = true := by kernel_rfl
theorem types : tysIs Tryz.prog [(.st 16), (.int .u64)] Tryz.f7.params.toList = true := by kernel_rfl
theorem answer : Tryz.f7.resultTypes = #[4] := by kernel_rfl
theorem abool : Tryz.prog.underlying 4 = some .bool := by kernel_rfl
theorem same : E.P = Tryz.prog := rfl
theorem law (x : Dens [(.st 16), (.int .u64)]) (hx : WfAll [(.st 16), (.int .u64)] x) : q198.F x.1 x.2.1 (fun r => r = true) := GreetSame_ok (inK_pos hx.1.1) (fun e h => (hx.1.2.2 e h).2.2.2.2.2.1) hx.2.1 rfl
theorem fits : ∀ (H : Type) (ds : List (DataW H)), ds.length = 2 → Rows.greetSameSpec.fn H ds = ⟨[.lit (.bool true)], ds, []⟩ := fun _ ds h => match ds, h with | [_, _], _ => rfl
set_option maxRecDepth 100000 in
theorem runs {H : Type} {encH : TypeId × Value → H} (W : World) (hv : E.V W) (base : Nat) (args : Array Value) (ds gs : List (DataW H)) (before : List MemPlace)
    (hok : ∀ (j : Nat) t v, Tryz.f7.params[j]? = some t → args[j]? = some v → Value.okWide Tryz.prog W .any base t v)
    (hW : DataW.Whole encH Tryz.prog Tryz.f7.params.toList Rows.greetSameSpec.vars false W args.toList ds gs before)
    (hw : (DataW.weightsEach Tryz.prog (Tryz.f7.params.toList ++ Rows.greetSameSpec.plain.varTypes Tryz.prog) (ds ++ gs)).all (· ≤ reachBytes) = true) :
    Calls Tryz.prog 7 args W fun e W' => ∃ v, e = .returned v ∧ Rows.greetSameSpec.post encH Tryz.prog Tryz.f7 false true false false W args v W' :=
  law_contract (E := E) (P := Tryz.prog) (us := [(.st 16), (.int .u64)]) (F := fun x => q198.F x.1 x.2.1) (tb := 4) same q198.ground q198.loops q198.eq law laid reads types rfl answer abool fits W hv base args ds gs before hok hW hw
set_option maxRecDepth 100000 in
theorem lifted (os : Os) (started : os.Started) (H : Type) (enc : TypeId × Value → H) :
    ReturnsInHanded {} Tryz.checked os 7 .any (fun w args => (Rows.greetSameSpec.pre enc Tryz.prog Tryz.f7 [] false w args ∧ laidMetH Tryz.prog Rows.greetSameRow.laid w) ∧ sizedMet enc Tryz.prog Tryz.f7 (OpenSpec.ofChange Rows.greetSameSpec) false w args)
      (Rows.greetSameSpec.post enc Tryz.prog Tryz.f7 false true false false) := by
  refine returnsInHanded_of_change_and (C := Tryz.checked) (X := fun w _ => laidMetH Tryz.prog Rows.greetSameRow.laid w) (fun _ _ _ hh h => h.of_heap hh) own started (by kernel_rfl) Tryz.func7
    (ChangeSpec.witness_at (enc := enc) (C := Tryz.checked) (os := os) (X := fun w _ => laidMetH Tryz.prog Rows.greetSameRow.laid w) false (Var.laidWorld os) #[.agg #[.int .u8 0, .slice none 0 0, .bool false], .int .u64 0] 8 rfl (by kernel_rfl) (by kernel_rfl) (by kernel_rfl) (by kernel_rfl) (by kernel_rfl) (Var.laidWorld_met os _)) ?_
  intro W base args ds gs before hval0 hW hcnd hsz0 hL _
  have hsz : (DataW.weightsEach Tryz.prog (Tryz.f7.params.toList ++ Rows.greetSameSpec.plain.varTypes Tryz.prog) (ds ++ gs)).all (· ≤ reachBytes) = true := hsz0
  have hval : ∀ (j : Nat) t v, Tryz.f7.params[j]? = some t → args[j]? = some v → Value.okWide Tryz.prog W .any base t v := hval0
  clear hval0 hsz0 hcnd
  exact runs W (Var.has_of_laid hL) base args ds gs before hval hW hsz
theorem facts : joinedFacts Tryz.prog 7 Tryz.f7 Rows.greetSameSpec Rows.greetSameRow = true := by
  unfold joinedFacts
  rw [Gm.Head.enter, Gm.Head.final, Gm.Head.made]
  kernel_rfl
theorem over : Rows.greetSameRow.holds Tryz.pinned (OpenSpec.ofChange Rows.greetSameSpec) :=
  OpenClaim.holds_of_wide 7 Tryz.f7 rfl rfl rfl rfl rfl rfl rfl ⟨rfl, rfl, rfl, rfl, rfl⟩ rfl rfl rfl rfl rfl (by kernel_rfl) Tryz.func7 facts
    (of_decide_eq_true (by kernel_rfl)) (by unfold Func.isWrapper; first | (rw [if_pos (by decide +kernel)]; kernel_rfl) | (rw [if_neg (by decide +kernel)]; exact ⟨rfl, rfl⟩))
    (fun os started H enc _ => lifted os started H enc)
theorem proved : Rows.GreetSameSaid := over
theorem wf : Rows.greetSameRow.wfByText (OpenSpec.ofChange Rows.greetSameSpec) = true := by kernel_rfl
theorem main : Tryz.prog.mainIs = some (true, "3353e2665a00d5496d95556abcf3f9cdfaebb8c56330212c7240fef4ec176390".toList) := by
  unfold Program.mainIs
  rw [Gm.Head.words_ok]
  kernel_rfl
theorem named : Tryz.prog.funcNamed "gemination/geminationlaw19.GreetSame" = some 7 := by kernel_rfl
theorem looks : true = Tryz.prog.looks [] := by kernel_rfl
theorem goes : false = Rows.greetSameRow.goesBy Tryz.prog := by kernel_rfl
theorem card : Rows.GreetSameCardSaid :=
  Claim7.holds_tied_plain_at .later [] [.data] true (true, "3353e2665a00d5496d95556abcf3f9cdfaebb8c56330212c7240fef4ec176390") true
    proved (fun _ h => by cases h) wf (fun _ h => by cases h) greetSame_row_tie rfl ⟨rfl, rfl⟩ main rfl
    (fun f fn hf hfn => by
      obtain rfl : f = 7 := Option.some.inj (named.symm.trans hf) |>.symm
      obtain rfl : fn = Tryz.f7 := (Option.some.inj (Tryz.func7.symm.trans hfn)).symm
      exact ⟨looks, fun j t ht => by
        rw [Tryz.params7] at ht
        match j, ht with
        | 0, ht => obtain rfl : t = 63 := by simpa using ht.symm
                   exact (show Tryz.prog.wantsStandIn 63 = false by kernel_rfl)
        | 1, ht => obtain rfl : t = 31 := by simpa using ht.symm
                   exact (show Tryz.prog.wantsStandIn 31 = false by kernel_rfl)
        | j + 2, ht => simp at ht⟩)
    goes
end Go.Proofs.YtlaijgoahmigmaaGreatDoor.greetSame
namespace Go.Proofs.YtlaijgoahmigmaaGreatDoor
/-- The card, under a short name. -/
theorem greetSame_card_holds : Rows.GreetSameCardSaid := greetSame.card
#print axioms greetSame_card_holds
end Go.Proofs.YtlaijgoahmigmaaGreatDoor
