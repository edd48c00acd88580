/-
  DERIVED. GIVEN WITH THE SEED: THE CARDS: each row of YtlaijgoahmigmaaGreatDoorRows.lean that lists a variable, with what it lists TIED to the program's text (the seventh form; the later family's looks); each row that meets fmt, with fmt's text TOLD by the authors' own Lean function (tested against real Go, not proved from fmt's source: count such statements apart). THE CARD IS WHAT COUNTS. Prove the row's statement (the work); the ties are given (YtlaijgoahmigmaaGreatDoorTie.lean); close each card by the builder's one call (the guide's Derived/Test/ToyasCard.lean, 'card_holds'). Laid BY PROGRAM, IN A SANDBOX (cutbox-door.mjs). By AI agents, Wed Nov 11 2026. No macro, syntax, notation, axiom, sorry.
-/
import Derived.Test.YtlaijgoahmigmaaGreatDoorRows
import GoSem.ClaimSeven
namespace Go.Proofs.YtlaijgoahmigmaaGreatDoor
namespace Rows

/-- THE TIED CARD OF 'geminationlaw18.SyncEnds'. -/
def syncEndsCard : Claim7 := { stood := { row := syncEndsRow, standIns := [], harness := (true, "3353e2665a00d5496d95556abcf3f9cdfaebb8c56330212c7240fef4ec176390"), looks := true }, kinds := [], alts := [], laidByText := true, laidKinds := [.data], laidTests := true, laidLooks := .later }
def SyncEndsCardSaid : Prop := Claim7.holds Tryz.pinned (.plain (OpenSpec.ofChange syncEndsSpec)) syncEndsCard

/-- THE TIED CARD OF 'geminationlaw19.GreetBegins'. -/
def greetBeginsCard : Claim7 := { stood := { row := greetBeginsRow, standIns := [], harness := (true, "3353e2665a00d5496d95556abcf3f9cdfaebb8c56330212c7240fef4ec176390"), looks := true }, kinds := [], alts := [], laidByText := true, laidKinds := [.data], laidTests := true, laidLooks := .later }
def GreetBeginsCardSaid : Prop := Claim7.holds Tryz.pinned (.plain (OpenSpec.ofChange greetBeginsSpec)) greetBeginsCard

/-- THE TIED CARD OF 'geminationlaw19.GreetMeets'. -/
def greetMeetsCard : Claim7 := { stood := { row := greetMeetsRow, standIns := [], harness := (true, "3353e2665a00d5496d95556abcf3f9cdfaebb8c56330212c7240fef4ec176390"), looks := true }, kinds := [], alts := [], laidByText := true, laidKinds := [.data], laidTests := true, laidLooks := .later }
def GreetMeetsCardSaid : Prop := Claim7.holds Tryz.pinned (.plain (OpenSpec.ofChange greetMeetsSpec)) greetMeetsCard

/-- THE TIED CARD OF 'geminationlaw19.GreetAlike'. -/
def greetAlikeCard : Claim7 := { stood := { row := greetAlikeRow, standIns := [], harness := (true, "3353e2665a00d5496d95556abcf3f9cdfaebb8c56330212c7240fef4ec176390"), looks := true }, kinds := [], alts := [], laidByText := true, laidKinds := [.data], laidTests := true, laidLooks := .later }
def GreetAlikeCardSaid : Prop := Claim7.holds Tryz.pinned (.plain (OpenSpec.ofChange greetAlikeSpec)) greetAlikeCard

/-- THE TIED CARD OF 'geminationlaw19.GreetSame'. -/
def greetSameCard : Claim7 := { stood := { row := greetSameRow, standIns := [], harness := (true, "3353e2665a00d5496d95556abcf3f9cdfaebb8c56330212c7240fef4ec176390"), looks := true }, kinds := [], alts := [], laidByText := true, laidKinds := [.data], laidTests := true, laidLooks := .later }
def GreetSameCardSaid : Prop := Claim7.holds Tryz.pinned (.plain (OpenSpec.ofChange greetSameSpec)) greetSameCard

/-- THE TIED CARD OF 'geminationlaw20.PeerJunk'. -/
def peerJunkCard : Claim7 := { stood := { row := peerJunkRow, standIns := [], harness := (true, "3353e2665a00d5496d95556abcf3f9cdfaebb8c56330212c7240fef4ec176390"), looks := true }, kinds := [], alts := [], laidByText := true, laidKinds := [.data, .handle], laidTests := true, laidLooks := .later }
def PeerJunkCardSaid : Prop := Claim7.holds Tryz.pinned (.plain (OpenSpec.ofChange peerJunkSpec)) peerJunkCard

/-- THE SECOND FORM's CARD OF 'geminationlaw18.SyncEnds'. -/
def syncEndsUptoCard : Claim7 := { stood := { row := syncEndsUptoRow, standIns := [], harness := (true, "3353e2665a00d5496d95556abcf3f9cdfaebb8c56330212c7240fef4ec176390"), looks := true }, kinds := [], alts := [], laidByText := true, laidKinds := [.data], laidTests := true, laidLooks := .later }
def SyncEndsUptoCardSaid : Prop := Claim7.holds Tryz.pinned (.plain (OpenSpec.upto syncEndsSpec)) syncEndsUptoCard

/-- THE SECOND FORM's CARD OF 'geminationlaw19.GreetBegins'. -/
def greetBeginsUptoCard : Claim7 := { stood := { row := greetBeginsUptoRow, standIns := [], harness := (true, "3353e2665a00d5496d95556abcf3f9cdfaebb8c56330212c7240fef4ec176390"), looks := true }, kinds := [], alts := [], laidByText := true, laidKinds := [.data], laidTests := true, laidLooks := .later }
def GreetBeginsUptoCardSaid : Prop := Claim7.holds Tryz.pinned (.plain (OpenSpec.upto greetBeginsSpec)) greetBeginsUptoCard

/-- THE SECOND FORM's CARD OF 'geminationlaw19.GreetMeets'. -/
def greetMeetsUptoCard : Claim7 := { stood := { row := greetMeetsUptoRow, standIns := [], harness := (true, "3353e2665a00d5496d95556abcf3f9cdfaebb8c56330212c7240fef4ec176390"), looks := true }, kinds := [], alts := [], laidByText := true, laidKinds := [.data], laidTests := true, laidLooks := .later }
def GreetMeetsUptoCardSaid : Prop := Claim7.holds Tryz.pinned (.plain (OpenSpec.upto greetMeetsSpec)) greetMeetsUptoCard

/-- THE SECOND FORM's CARD OF 'geminationlaw19.GreetAlike'. -/
def greetAlikeUptoCard : Claim7 := { stood := { row := greetAlikeUptoRow, standIns := [], harness := (true, "3353e2665a00d5496d95556abcf3f9cdfaebb8c56330212c7240fef4ec176390"), looks := true }, kinds := [], alts := [], laidByText := true, laidKinds := [.data], laidTests := true, laidLooks := .later }
def GreetAlikeUptoCardSaid : Prop := Claim7.holds Tryz.pinned (.plain (OpenSpec.upto greetAlikeSpec)) greetAlikeUptoCard

/-- THE SECOND FORM's CARD OF 'geminationlaw19.GreetSame'. -/
def greetSameUptoCard : Claim7 := { stood := { row := greetSameUptoRow, standIns := [], harness := (true, "3353e2665a00d5496d95556abcf3f9cdfaebb8c56330212c7240fef4ec176390"), looks := true }, kinds := [], alts := [], laidByText := true, laidKinds := [.data], laidTests := true, laidLooks := .later }
def GreetSameUptoCardSaid : Prop := Claim7.holds Tryz.pinned (.plain (OpenSpec.upto greetSameSpec)) greetSameUptoCard

/-- THE SECOND FORM's CARD OF 'geminationlaw20.PeerJunk'. -/
def peerJunkUptoCard : Claim7 := { stood := { row := peerJunkUptoRow, standIns := [], harness := (true, "3353e2665a00d5496d95556abcf3f9cdfaebb8c56330212c7240fef4ec176390"), looks := true }, kinds := [], alts := [], laidByText := true, laidKinds := [.data, .handle], laidTests := true, laidLooks := .later }
def PeerJunkUptoCardSaid : Prop := Claim7.holds Tryz.pinned (.plain (OpenSpec.upto peerJunkSpec)) peerJunkUptoCard
end Rows
end Go.Proofs.YtlaijgoahmigmaaGreatDoor
