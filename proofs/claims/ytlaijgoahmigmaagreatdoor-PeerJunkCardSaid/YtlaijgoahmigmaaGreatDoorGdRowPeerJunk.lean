/- Whatever cluster and bytes come in, PeerJunk answers true and leaves them as they were, where the table of bits and the type that the package errors keeps are as the program lays them. -/
import Derived.Test.YtlaijgoahmigmaaGreatDoorRows
import Derived.Test.YtlaijgoahmigmaaGreatDoorCards
import Derived.Test.YtlaijgoahmigmaaGreatDoorTie
import Derived.ProofKit
import Derived.SizedLaws
import Derived.SevenTiedAt
import Derived.Test.YtlaijgoahmigmaaGreatDoorGdTz
import Derived.Test.YtlaijgoahmigmaaGreatDoorGdJ1
import Derived.Test.YtlaijgoahmigmaaGreatDoorGdHead
namespace Go.Proofs.YtlaijgoahmigmaaGreatDoor.peerJunk
open Gm
theorem own : ownKnob Tryz.prog.godebug = none := by kernel_rfl
theorem laid : laidOutB Tryz.prog = true := by kernel_rfl
theorem reads : (Tryz.f8.params.toList.all fun t => Tryz.prog.readableRec t && decide (t < Tryz.prog.types.size)) = true := by kernel_rfl
theorem types : tysIs Tryz.prog [(.st 16), .str] Tryz.f8.params.toList = true := by kernel_rfl
theorem answer : Tryz.f8.resultTypes = #[4] := by kernel_rfl
theorem abool : Tryz.prog.underlying 4 = some .bool := by kernel_rfl
theorem same : E.P = Tryz.prog := rfl
theorem law (x : Dens [(.st 16), .str]) (hx : WfAll [(.st 16), .str] x) : q222.F x.1 x.2.1 (fun r => r = true) := PeerJunk_ok (inK_pos hx.1.1) (fun e h => (hx.1.2.2 e h).2.2.2.2.2.1) rfl
theorem fits : ∀ (H : Type) (ds : List (DataW H)), ds.length = 2 → Rows.peerJunkSpec.fn H ds = ⟨[.lit (.bool true)], ds, []⟩ := fun _ ds h => match ds, h with | [_, _], _ => rfl
set_option maxRecDepth 100000 in
theorem runs {H : Type} {encH : TypeId × Value → H} (W : World) (hv : E.V W) (base : Nat) (args : Array Value) (ds gs : List (DataW H)) (before : List MemPlace)
    (hok : ∀ (j : Nat) t v, Tryz.f8.params[j]? = some t → args[j]? = some v → Value.okWide Tryz.prog W .any base t v)
    (hW : DataW.Whole encH Tryz.prog Tryz.f8.params.toList Rows.peerJunkSpec.vars false W args.toList ds gs before)
    (hw : (DataW.weightsEach Tryz.prog (Tryz.f8.params.toList ++ Rows.peerJunkSpec.plain.varTypes Tryz.prog) (ds ++ gs)).all (· ≤ reachBytes) = true) :
    Calls Tryz.prog 8 args W fun e W' => ∃ v, e = .returned v ∧ Rows.peerJunkSpec.post encH Tryz.prog Tryz.f8 false true false false W args v W' :=
  law_contract (E := E) (P := Tryz.prog) (us := [(.st 16), .str]) (F := fun x => q222.F x.1 x.2.1) (tb := 4) same q222.ground q222.loops q222.eq law laid reads types rfl answer abool fits W hv base args ds gs before hok hW hw
set_option maxRecDepth 100000 in
theorem lifted (os : Os) (started : os.Started) (H : Type) (enc : TypeId × Value → H) :
    ReturnsInHanded {} Tryz.checked os 8 .any (fun w args => (Rows.peerJunkSpec.pre enc Tryz.prog Tryz.f8 [] false w args ∧ laidMetH Tryz.prog Rows.peerJunkRow.laid w) ∧ sizedMet enc Tryz.prog Tryz.f8 (OpenSpec.ofChange Rows.peerJunkSpec) false w args)
      (Rows.peerJunkSpec.post enc Tryz.prog Tryz.f8 false true false false) := by
  refine returnsInHanded_of_change_and (C := Tryz.checked) (X := fun w _ => laidMetH Tryz.prog Rows.peerJunkRow.laid w) (fun _ _ _ hh h => h.of_heap hh) own started (by kernel_rfl) Tryz.func8
    (ChangeSpec.witness_at (enc := enc) (C := Tryz.checked) (os := os) (X := fun w _ => laidMetH Tryz.prog Rows.peerJunkRow.laid w) false (Var.laidWorld os) #[.agg #[.int .u8 0, .slice none 0 0, .bool false], .string ByteArray.empty] 8 rfl (by kernel_rfl) (by kernel_rfl) (by kernel_rfl) (by kernel_rfl) (by kernel_rfl) (Var.laidWorld_met os _)) ?_
  intro W base args ds gs before hval0 hW hcnd hsz0 hL _
  have hsz : (DataW.weightsEach Tryz.prog (Tryz.f8.params.toList ++ Rows.peerJunkSpec.plain.varTypes Tryz.prog) (ds ++ gs)).all (· ≤ reachBytes) = true := hsz0
  have hval : ∀ (j : Nat) t v, Tryz.f8.params[j]? = some t → args[j]? = some v → Value.okWide Tryz.prog W .any base t v := hval0
  clear hval0 hsz0 hcnd
  exact runs W (Var.has_of_laid hL) base args ds gs before hval hW hsz
theorem facts : joinedFacts Tryz.prog 8 Tryz.f8 Rows.peerJunkSpec Rows.peerJunkRow = true := by
  unfold joinedFacts
  rw [Gm.Head.enter, Gm.Head.final, Gm.Head.made]
  kernel_rfl
theorem over : Rows.peerJunkRow.holds Tryz.pinned (OpenSpec.ofChange Rows.peerJunkSpec) :=
  OpenClaim.holds_of_wide 8 Tryz.f8 rfl rfl rfl rfl rfl rfl rfl ⟨rfl, rfl, rfl, rfl, rfl⟩ rfl rfl rfl rfl rfl (by kernel_rfl) Tryz.func8 facts
    (of_decide_eq_true (by kernel_rfl)) (by unfold Func.isWrapper; first | (rw [if_pos (by decide +kernel)]; kernel_rfl) | (rw [if_neg (by decide +kernel)]; exact ⟨rfl, rfl⟩))
    (fun os started H enc _ => lifted os started H enc)
theorem proved : Rows.PeerJunkSaid := over
theorem wf : Rows.peerJunkRow.wfByText (OpenSpec.ofChange Rows.peerJunkSpec) = true := by kernel_rfl
theorem main : Tryz.prog.mainIs = some (true, "3353e2665a00d5496d95556abcf3f9cdfaebb8c56330212c7240fef4ec176390".toList) := by
  unfold Program.mainIs
  rw [Gm.Head.words_ok]
  kernel_rfl
theorem named : Tryz.prog.funcNamed "gemination/geminationlaw20.PeerJunk" = some 8 := by kernel_rfl
theorem looks : true = Tryz.prog.looks [] := by kernel_rfl
theorem goes : false = Rows.peerJunkRow.goesBy Tryz.prog := by kernel_rfl
theorem card : Rows.PeerJunkCardSaid :=
  Claim7.holds_tied_plain_at .later [] [.data, .handle] true (true, "3353e2665a00d5496d95556abcf3f9cdfaebb8c56330212c7240fef4ec176390") true
    proved (fun _ h => by cases h) wf (fun _ h => by cases h) peerJunk_row_tie rfl ⟨rfl, rfl⟩ main rfl
    (fun f fn hf hfn => by
      obtain rfl : f = 8 := Option.some.inj (named.symm.trans hf) |>.symm
      obtain rfl : fn = Tryz.f8 := (Option.some.inj (Tryz.func8.symm.trans hfn)).symm
      exact ⟨looks, fun j t ht => by
        rw [Tryz.params8] at ht
        match j, ht with
        | 0, ht => obtain rfl : t = 91 := by simpa using ht.symm
                   exact (show Tryz.prog.wantsStandIn 91 = false by kernel_rfl)
        | 1, ht => obtain rfl : t = 9 := by simpa using ht.symm
                   exact (show Tryz.prog.wantsStandIn 9 = false by kernel_rfl)
        | j + 2, ht => simp at ht⟩)
    goes
end Go.Proofs.YtlaijgoahmigmaaGreatDoor.peerJunk
namespace Go.Proofs.YtlaijgoahmigmaaGreatDoor
/-- The card, under a short name. -/
theorem peerJunk_card_holds : Rows.PeerJunkCardSaid := peerJunk.card
#print axioms peerJunk_card_holds
end Go.Proofs.YtlaijgoahmigmaaGreatDoor
