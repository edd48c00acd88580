/-
  DERIVED. GIVEN WITH THE SEED: THE CARDS: each row of YtfjhdboapcckpaaGreatDoorRows.lean that lists a variable, with what it lists TIED to the program's text (the seventh form; the later family's looks); each row that meets fmt, with fmt's text TOLD by the authors' own Lean function (tested against real Go, not proved from fmt's source: count such statements apart). THE CARD IS WHAT COUNTS. Prove the row's statement (the work); the ties are given (YtfjhdboapcckpaaGreatDoorTie.lean); close each card by the builder's one call (the guide's Derived/Test/ToyasCard.lean, 'card_holds'). Laid BY PROGRAM, IN A SANDBOX (cutbox-door.mjs). By AI agents, Wed Nov 11 2026. No macro, syntax, notation, axiom, sorry.
-/
import Derived.Test.YtfjhdboapcckpaaGreatDoorRows
import GoSem.ClaimSeven
namespace Go.Proofs.YtfjhdboapcckpaaGreatDoor
namespace Rows

/-- THE TIED CARD OF 'geminationlaw16.NodeRoles'. -/
def nodeRolesCard : Claim7 := { stood := { row := nodeRolesRow, standIns := [], harness := (true, "c363b7e507fb599fabae40dc166269fa1ff9f4ee879f3c489666fe7c43f61bd1"), looks := true }, kinds := [], alts := [], laidByText := true, laidKinds := [.handle], laidTests := true, laidLooks := .later }
def NodeRolesCardSaid : Prop := Claim7.holds Tryz.pinned (.plain (OpenSpec.ofChange nodeRolesSpec)) nodeRolesCard

/-- THE TIED CARD OF 'geminationlaw16.NodeReads'. -/
def nodeReadsCard : Claim7 := { stood := { row := nodeReadsRow, standIns := [], harness := (true, "c363b7e507fb599fabae40dc166269fa1ff9f4ee879f3c489666fe7c43f61bd1"), looks := true }, kinds := [], alts := [], laidByText := true, laidKinds := [.handle], laidTests := true, laidLooks := .later }
def NodeReadsCardSaid : Prop := Claim7.holds Tryz.pinned (.plain (OpenSpec.ofChange nodeReadsSpec)) nodeReadsCard

/-- THE TIED CARD OF 'geminationlaw16.NodeRefuses'. -/
def nodeRefusesCard : Claim7 := { stood := { row := nodeRefusesRow, standIns := [], harness := (true, "c363b7e507fb599fabae40dc166269fa1ff9f4ee879f3c489666fe7c43f61bd1"), looks := true }, kinds := [], alts := [], laidByText := true, laidKinds := [.handle], laidTests := true, laidLooks := .later }
def NodeRefusesCardSaid : Prop := Claim7.holds Tryz.pinned (.plain (OpenSpec.ofChange nodeRefusesSpec)) nodeRefusesCard

/-- THE TIED CARD OF 'geminationlaw16.NodeKeeps'. -/
def nodeKeepsCard : Claim7 := { stood := { row := nodeKeepsRow, standIns := [], harness := (true, "c363b7e507fb599fabae40dc166269fa1ff9f4ee879f3c489666fe7c43f61bd1"), looks := true }, kinds := [], alts := [], laidByText := true, laidKinds := [.handle], laidTests := true, laidLooks := .later }
def NodeKeepsCardSaid : Prop := Claim7.holds Tryz.pinned (.plain (OpenSpec.ofChange nodeKeepsSpec)) nodeKeepsCard

/-- THE TIED CARD OF 'geminationlaw15.StoreMarks'. -/
def storeMarksCard : Claim7 := { stood := { row := storeMarksRow, standIns := [], harness := (true, "c363b7e507fb599fabae40dc166269fa1ff9f4ee879f3c489666fe7c43f61bd1"), looks := true }, kinds := [], alts := [], laidByText := true, laidKinds := [.handle], laidTests := true, laidLooks := .later }
def StoreMarksCardSaid : Prop := Claim7.holds Tryz.pinned (.plain (OpenSpec.ofChange storeMarksSpec)) storeMarksCard

/-- THE TIED CARD OF 'geminationlaw15.StoreActs'. -/
def storeActsCard : Claim7 := { stood := { row := storeActsRow, standIns := [], harness := (true, "c363b7e507fb599fabae40dc166269fa1ff9f4ee879f3c489666fe7c43f61bd1"), looks := true }, kinds := [], alts := [], laidByText := true, laidKinds := [.handle], laidTests := true, laidLooks := .later }
def StoreActsCardSaid : Prop := Claim7.holds Tryz.pinned (.plain (OpenSpec.ofChange storeActsSpec)) storeActsCard

/-- THE SECOND FORM's CARD OF 'geminationlaw16.NodeRoles'. -/
def nodeRolesUptoCard : Claim7 := { stood := { row := nodeRolesUptoRow, standIns := [], harness := (true, "c363b7e507fb599fabae40dc166269fa1ff9f4ee879f3c489666fe7c43f61bd1"), looks := true }, kinds := [], alts := [], laidByText := true, laidKinds := [.handle], laidTests := true, laidLooks := .later }
def NodeRolesUptoCardSaid : Prop := Claim7.holds Tryz.pinned (.plain (OpenSpec.upto nodeRolesSpec)) nodeRolesUptoCard

/-- THE SECOND FORM's CARD OF 'geminationlaw16.NodeReads'. -/
def nodeReadsUptoCard : Claim7 := { stood := { row := nodeReadsUptoRow, standIns := [], harness := (true, "c363b7e507fb599fabae40dc166269fa1ff9f4ee879f3c489666fe7c43f61bd1"), looks := true }, kinds := [], alts := [], laidByText := true, laidKinds := [.handle], laidTests := true, laidLooks := .later }
def NodeReadsUptoCardSaid : Prop := Claim7.holds Tryz.pinned (.plain (OpenSpec.upto nodeReadsSpec)) nodeReadsUptoCard

/-- THE SECOND FORM's CARD OF 'geminationlaw16.NodeRefuses'. -/
def nodeRefusesUptoCard : Claim7 := { stood := { row := nodeRefusesUptoRow, standIns := [], harness := (true, "c363b7e507fb599fabae40dc166269fa1ff9f4ee879f3c489666fe7c43f61bd1"), looks := true }, kinds := [], alts := [], laidByText := true, laidKinds := [.handle], laidTests := true, laidLooks := .later }
def NodeRefusesUptoCardSaid : Prop := Claim7.holds Tryz.pinned (.plain (OpenSpec.upto nodeRefusesSpec)) nodeRefusesUptoCard

/-- THE SECOND FORM's CARD OF 'geminationlaw16.NodeKeeps'. -/
def nodeKeepsUptoCard : Claim7 := { stood := { row := nodeKeepsUptoRow, standIns := [], harness := (true, "c363b7e507fb599fabae40dc166269fa1ff9f4ee879f3c489666fe7c43f61bd1"), looks := true }, kinds := [], alts := [], laidByText := true, laidKinds := [.handle], laidTests := true, laidLooks := .later }
def NodeKeepsUptoCardSaid : Prop := Claim7.holds Tryz.pinned (.plain (OpenSpec.upto nodeKeepsSpec)) nodeKeepsUptoCard

/-- THE SECOND FORM's CARD OF 'geminationlaw15.StoreMarks'. -/
def storeMarksUptoCard : Claim7 := { stood := { row := storeMarksUptoRow, standIns := [], harness := (true, "c363b7e507fb599fabae40dc166269fa1ff9f4ee879f3c489666fe7c43f61bd1"), looks := true }, kinds := [], alts := [], laidByText := true, laidKinds := [.handle], laidTests := true, laidLooks := .later }
def StoreMarksUptoCardSaid : Prop := Claim7.holds Tryz.pinned (.plain (OpenSpec.upto storeMarksSpec)) storeMarksUptoCard

/-- THE SECOND FORM's CARD OF 'geminationlaw15.StoreActs'. -/
def storeActsUptoCard : Claim7 := { stood := { row := storeActsUptoRow, standIns := [], harness := (true, "c363b7e507fb599fabae40dc166269fa1ff9f4ee879f3c489666fe7c43f61bd1"), looks := true }, kinds := [], alts := [], laidByText := true, laidKinds := [.handle], laidTests := true, laidLooks := .later }
def StoreActsUptoCardSaid : Prop := Claim7.holds Tryz.pinned (.plain (OpenSpec.upto storeActsSpec)) storeActsUptoCard
end Rows
end Go.Proofs.YtfjhdboapcckpaaGreatDoor
