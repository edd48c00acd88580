/-
  NARROWER THAN 'FOR EVERY INPUT', by the rows' own cells (each row's printed sentence says how): SyncEnds: laid · GreetBegins: laid · GreetMeets: laid · GreetAlike: laid · GreetSame: laid · PeerJunk: laid.
  DERIVED. THE GIVEN ROWS OF THIS SEAT. 6 by the template 'for every input the law returns true; each argument reads behind the call as it read before'; 0 by the template 'total and deterministic' (their statements: YtlaijgoahmigmaaGreatDoorTotals.lean).
  GIVEN WITH THE SEED: the statements are not yours to turn. If you find one false, say at which input.
  Laid BY PROGRAM, IN A SANDBOX (cutbox-rows.mjs): the forced cells as the released guide's own fill.sh prints them over the translation ad6f0c202809805d… (all of the seat's roots in one cut). By AI agents, Wed Nov 11 2026. No macro, syntax, notation, axiom, sorry.
-/
import Derived.Test.YtlaijgoahmigmaaGreatDoorChecked
import GoSem.Claim
import GoSem.ClaimJoined
import GoSem.ClaimMapViews
import Derived.JoinedTies
import Derived.KernelRfl
namespace Go.Proofs.YtlaijgoahmigmaaGreatDoor
/- THE CELL 'sum', in the pinned program and in every row, IS THE sha256 OF THE DUMP (.gsa) THAT YtlaijgoahmigmaaGreatDoorProg.lean LOADS. Nothing in Lean hashes anything: it is a label: what it is worth is what the hold of that sum in a sandbox is worth. -/
noncomputable def Tryz.pinned : Pinned := { name := "ytlaijgoahmigmaagreatdoor", sum := "ad6f0c202809805df695e757a9eaf8da7fa8bc1f17bf951425708d722e3dac8f", checked := Tryz.checked }
namespace Rows
def none {H : Type} : Left H := { results := [], args := [] }

/- WHAT THE LISTED PACKAGE-LEVEL VARIABLES READ AS WHEN THE CALL BEGINS. Each datum BY PROGRAM (the guide's laid-datum.mjs) off the statement by which the dump's own 'gosem.cut.vars' lays the variable. In a bare row this is a premise. The card (YtlaijgoahmigmaaGreatDoorCards.lean) ties it to the program's text. -/
def laid_math_bits_deBruijn32tab {H : Type} : DataW H := .agg [.lit (.int .u8 0), .lit (.int .u8 1), .lit (.int .u8 28), .lit (.int .u8 2), .lit (.int .u8 29), .lit (.int .u8 14), .lit (.int .u8 24), .lit (.int .u8 3), .lit (.int .u8 30), .lit (.int .u8 22), .lit (.int .u8 20), .lit (.int .u8 15), .lit (.int .u8 25), .lit (.int .u8 17), .lit (.int .u8 4), .lit (.int .u8 8), .lit (.int .u8 31), .lit (.int .u8 27), .lit (.int .u8 13), .lit (.int .u8 23), .lit (.int .u8 21), .lit (.int .u8 19), .lit (.int .u8 16), .lit (.int .u8 7), .lit (.int .u8 26), .lit (.int .u8 12), .lit (.int .u8 18), .lit (.int .u8 6), .lit (.int .u8 11), .lit (.int .u8 5), .lit (.int .u8 10), .lit (.int .u8 9)]
def laid_errors_errorType {H : Type} : DataW H := .iface "internal/reflectlite.rtype" (.agg [.ptr (.lit (.string [101, 114, 114, 111, 114]))])

/-- 'geminationlaw18.SyncEnds': WHATEVER THE INPUT: true; the input reads as it did. -/
def syncEndsSpec : ChangeSpec := { name := "syncEnds", fn := fun _ => fun
  | [d1, d2, d3] => { results := [.lit (.bool true)], args := [d1, d2, d3] }
  | _ => none }
def syncEndsRow : OpenClaim := { program := "ytlaijgoahmigmaagreatdoor", sum := "ad6f0c202809805df695e757a9eaf8da7fa8bc1f17bf951425708d722e3dac8f", func := "gemination/geminationlaw18.SyncEnds", spec := "syncEnds", unfollowed := true, recurses := true, named := ["math/bits.deBruijn32tab"], apart := false, laid := [("math/bits.deBruijn32tab", laid_math_bits_deBruijn32tab)] }
def SyncEndsSaid : Prop := syncEndsRow.holds Tryz.pinned (OpenSpec.ofChange syncEndsSpec)

/-- ITS FALSE NEIGHBOUR: 'it returns false'. Refute it at one input. -/
def syncEndsWrong : ChangeSpec := { name := "syncEnds", fn := fun _ => fun
  | [d1, d2, d3] => { results := [.lit (.bool false)], args := [d1, d2, d3] }
  | _ => none }
def SyncEndsWrongFalsely : Prop := syncEndsRow.holds Tryz.pinned (OpenSpec.ofChange syncEndsWrong)

/-- 'geminationlaw19.GreetBegins': WHATEVER THE INPUT: true; the input reads as it did. -/
def greetBeginsSpec : ChangeSpec := { name := "greetBegins", fn := fun _ => fun
  | [d1, d2] => { results := [.lit (.bool true)], args := [d1, d2] }
  | _ => none }
def greetBeginsRow : OpenClaim := { program := "ytlaijgoahmigmaagreatdoor", sum := "ad6f0c202809805df695e757a9eaf8da7fa8bc1f17bf951425708d722e3dac8f", func := "gemination/geminationlaw19.GreetBegins", spec := "greetBegins", unfollowed := true, recurses := true, named := ["math/bits.deBruijn32tab"], apart := false, laid := [("math/bits.deBruijn32tab", laid_math_bits_deBruijn32tab)] }
def GreetBeginsSaid : Prop := greetBeginsRow.holds Tryz.pinned (OpenSpec.ofChange greetBeginsSpec)

/-- ITS FALSE NEIGHBOUR: 'it returns false'. Refute it at one input. -/
def greetBeginsWrong : ChangeSpec := { name := "greetBegins", fn := fun _ => fun
  | [d1, d2] => { results := [.lit (.bool false)], args := [d1, d2] }
  | _ => none }
def GreetBeginsWrongFalsely : Prop := greetBeginsRow.holds Tryz.pinned (OpenSpec.ofChange greetBeginsWrong)

/-- 'geminationlaw19.GreetMeets': WHATEVER THE INPUT: true; the input reads as it did. -/
def greetMeetsSpec : ChangeSpec := { name := "greetMeets", fn := fun _ => fun
  | [d1, d2, d3] => { results := [.lit (.bool true)], args := [d1, d2, d3] }
  | _ => none }
def greetMeetsRow : OpenClaim := { program := "ytlaijgoahmigmaagreatdoor", sum := "ad6f0c202809805df695e757a9eaf8da7fa8bc1f17bf951425708d722e3dac8f", func := "gemination/geminationlaw19.GreetMeets", spec := "greetMeets", unfollowed := true, recurses := true, named := ["math/bits.deBruijn32tab"], apart := false, laid := [("math/bits.deBruijn32tab", laid_math_bits_deBruijn32tab)] }
def GreetMeetsSaid : Prop := greetMeetsRow.holds Tryz.pinned (OpenSpec.ofChange greetMeetsSpec)

/-- ITS FALSE NEIGHBOUR: 'it returns false'. Refute it at one input. -/
def greetMeetsWrong : ChangeSpec := { name := "greetMeets", fn := fun _ => fun
  | [d1, d2, d3] => { results := [.lit (.bool false)], args := [d1, d2, d3] }
  | _ => none }
def GreetMeetsWrongFalsely : Prop := greetMeetsRow.holds Tryz.pinned (OpenSpec.ofChange greetMeetsWrong)

/-- 'geminationlaw19.GreetAlike': WHATEVER THE INPUT: true; the input reads as it did. -/
def greetAlikeSpec : ChangeSpec := { name := "greetAlike", fn := fun _ => fun
  | [d1, d2] => { results := [.lit (.bool true)], args := [d1, d2] }
  | _ => none }
def greetAlikeRow : OpenClaim := { program := "ytlaijgoahmigmaagreatdoor", sum := "ad6f0c202809805df695e757a9eaf8da7fa8bc1f17bf951425708d722e3dac8f", func := "gemination/geminationlaw19.GreetAlike", spec := "greetAlike", unfollowed := true, recurses := true, named := ["math/bits.deBruijn32tab"], apart := false, laid := [("math/bits.deBruijn32tab", laid_math_bits_deBruijn32tab)] }
def GreetAlikeSaid : Prop := greetAlikeRow.holds Tryz.pinned (OpenSpec.ofChange greetAlikeSpec)

/-- ITS FALSE NEIGHBOUR: 'it returns false'. Refute it at one input. -/
def greetAlikeWrong : ChangeSpec := { name := "greetAlike", fn := fun _ => fun
  | [d1, d2] => { results := [.lit (.bool false)], args := [d1, d2] }
  | _ => none }
def GreetAlikeWrongFalsely : Prop := greetAlikeRow.holds Tryz.pinned (OpenSpec.ofChange greetAlikeWrong)

/-- 'geminationlaw19.GreetSame': WHATEVER THE INPUT: true; the input reads as it did. -/
def greetSameSpec : ChangeSpec := { name := "greetSame", fn := fun _ => fun
  | [d1, d2] => { results := [.lit (.bool true)], args := [d1, d2] }
  | _ => none }
def greetSameRow : OpenClaim := { program := "ytlaijgoahmigmaagreatdoor", sum := "ad6f0c202809805df695e757a9eaf8da7fa8bc1f17bf951425708d722e3dac8f", func := "gemination/geminationlaw19.GreetSame", spec := "greetSame", unfollowed := true, recurses := true, named := ["math/bits.deBruijn32tab"], apart := false, laid := [("math/bits.deBruijn32tab", laid_math_bits_deBruijn32tab)] }
def GreetSameSaid : Prop := greetSameRow.holds Tryz.pinned (OpenSpec.ofChange greetSameSpec)

/-- ITS FALSE NEIGHBOUR: 'it returns false'. Refute it at one input. -/
def greetSameWrong : ChangeSpec := { name := "greetSame", fn := fun _ => fun
  | [d1, d2] => { results := [.lit (.bool false)], args := [d1, d2] }
  | _ => none }
def GreetSameWrongFalsely : Prop := greetSameRow.holds Tryz.pinned (OpenSpec.ofChange greetSameWrong)

/-- 'geminationlaw20.PeerJunk': WHATEVER THE INPUT: true; the input reads as it did. -/
def peerJunkSpec : ChangeSpec := { name := "peerJunk", fn := fun _ => fun
  | [d1, d2] => { results := [.lit (.bool true)], args := [d1, d2] }
  | _ => none }
def peerJunkRow : OpenClaim := { program := "ytlaijgoahmigmaagreatdoor", sum := "ad6f0c202809805df695e757a9eaf8da7fa8bc1f17bf951425708d722e3dac8f", func := "gemination/geminationlaw20.PeerJunk", spec := "peerJunk", inPlace := ["internal/reflectlite.ValueOf", "(internal/reflectlite.Value).Type", "(internal/reflectlite.Value).IsNil", "internal/reflectlite.TypeOf", "(internal/reflectlite.Value).Elem", "(internal/reflectlite.Value).Set"], unfollowed := true, recurses := true, named := ["errors.errorType", "math/bits.deBruijn32tab"], apart := false, laid := [("math/bits.deBruijn32tab", laid_math_bits_deBruijn32tab), ("errors.errorType", laid_errors_errorType)] }
def PeerJunkSaid : Prop := peerJunkRow.holds Tryz.pinned (OpenSpec.ofChange peerJunkSpec)

/-- ITS FALSE NEIGHBOUR: 'it returns false'. Refute it at one input. -/
def peerJunkWrong : ChangeSpec := { name := "peerJunk", fn := fun _ => fun
  | [d1, d2] => { results := [.lit (.bool false)], args := [d1, d2] }
  | _ => none }
def PeerJunkWrongFalsely : Prop := peerJunkRow.holds Tryz.pinned (OpenSpec.ofChange peerJunkWrong)

/- THE SECOND FORM. 'bulk': how many values and letters a reading holds, each counted each time it is reached (what is shared counts as often as it is met; a slice's spare places count too). A statement '..UptoSaid' is the law's where the arguments, and the package variables that the reading takes, are together of bulk at most 1048576: NARROWER than '..Said'. Prove '..Said' where nothing that the law and all that it calls make is longer than what came in: it says more and counts as full. Else prove '..UptoSaid'. A law counts once. -/
mutual
def uptoBulk {H : Type} : DataW H → Nat
  | .lit (.string bytes) => bytes.length + 1
  | .lit _ => 1
  | .nil => 1
  | .ptr d => uptoBulk d + 1
  | .slice elems spare => uptoBulkAll elems + uptoBulkAll spare + 1
  | .agg parts => uptoBulkAll parts + 1
  | .iface _ d => uptoBulk d + 1
  | .map entries => uptoBulkEntries entries + 1
  | .held _ => 1
def uptoBulkAll {H : Type} : List (DataW H) → Nat
  | [] => 0
  | d :: r => uptoBulk d + uptoBulkAll r
def uptoBulkEntries {H : Type} : List (Lit × DataW H) → Nat
  | [] => 0
  | x :: r => uptoBulkEntry x + uptoBulkEntries r
def uptoBulkEntry {H : Type} : Lit × DataW H → Nat
  | (.string bytes, d) => bytes.length + uptoBulk d + 1
  | (_, d) => uptoBulk d + 1
 end
def uptoSmall : (H : Type) → List (DataW H) → Bool := fun _ ds => decide (uptoBulkAll ds ≤ 1048576)
def OpenSpec.upto (s : _root_.Go.ChangeSpec) : _root_.Go.OpenSpec := { _root_.Go.OpenSpec.ofChange s with cond := some uptoSmall }

/-- 'geminationlaw18.SyncEnds', WHERE WHAT IT READS IS OF BULK AT MOST 1048576: true; the input reads as it did. -/
def syncEndsUptoRow : OpenClaim := { program := "ytlaijgoahmigmaagreatdoor", sum := "ad6f0c202809805df695e757a9eaf8da7fa8bc1f17bf951425708d722e3dac8f", func := "gemination/geminationlaw18.SyncEnds", spec := "syncEnds", unfollowed := true, recurses := true, named := ["math/bits.deBruijn32tab"], apart := false, laid := [("math/bits.deBruijn32tab", laid_math_bits_deBruijn32tab)], narrowed := true }
def SyncEndsUptoSaid : Prop := syncEndsUptoRow.holds Tryz.pinned (OpenSpec.upto syncEndsSpec)

/-- 'geminationlaw19.GreetBegins', WHERE WHAT IT READS IS OF BULK AT MOST 1048576: true; the input reads as it did. -/
def greetBeginsUptoRow : OpenClaim := { program := "ytlaijgoahmigmaagreatdoor", sum := "ad6f0c202809805df695e757a9eaf8da7fa8bc1f17bf951425708d722e3dac8f", func := "gemination/geminationlaw19.GreetBegins", spec := "greetBegins", unfollowed := true, recurses := true, named := ["math/bits.deBruijn32tab"], apart := false, laid := [("math/bits.deBruijn32tab", laid_math_bits_deBruijn32tab)], narrowed := true }
def GreetBeginsUptoSaid : Prop := greetBeginsUptoRow.holds Tryz.pinned (OpenSpec.upto greetBeginsSpec)

/-- 'geminationlaw19.GreetMeets', WHERE WHAT IT READS IS OF BULK AT MOST 1048576: true; the input reads as it did. -/
def greetMeetsUptoRow : OpenClaim := { program := "ytlaijgoahmigmaagreatdoor", sum := "ad6f0c202809805df695e757a9eaf8da7fa8bc1f17bf951425708d722e3dac8f", func := "gemination/geminationlaw19.GreetMeets", spec := "greetMeets", unfollowed := true, recurses := true, named := ["math/bits.deBruijn32tab"], apart := false, laid := [("math/bits.deBruijn32tab", laid_math_bits_deBruijn32tab)], narrowed := true }
def GreetMeetsUptoSaid : Prop := greetMeetsUptoRow.holds Tryz.pinned (OpenSpec.upto greetMeetsSpec)

/-- 'geminationlaw19.GreetAlike', WHERE WHAT IT READS IS OF BULK AT MOST 1048576: true; the input reads as it did. -/
def greetAlikeUptoRow : OpenClaim := { program := "ytlaijgoahmigmaagreatdoor", sum := "ad6f0c202809805df695e757a9eaf8da7fa8bc1f17bf951425708d722e3dac8f", func := "gemination/geminationlaw19.GreetAlike", spec := "greetAlike", unfollowed := true, recurses := true, named := ["math/bits.deBruijn32tab"], apart := false, laid := [("math/bits.deBruijn32tab", laid_math_bits_deBruijn32tab)], narrowed := true }
def GreetAlikeUptoSaid : Prop := greetAlikeUptoRow.holds Tryz.pinned (OpenSpec.upto greetAlikeSpec)

/-- 'geminationlaw19.GreetSame', WHERE WHAT IT READS IS OF BULK AT MOST 1048576: true; the input reads as it did. -/
def greetSameUptoRow : OpenClaim := { program := "ytlaijgoahmigmaagreatdoor", sum := "ad6f0c202809805df695e757a9eaf8da7fa8bc1f17bf951425708d722e3dac8f", func := "gemination/geminationlaw19.GreetSame", spec := "greetSame", unfollowed := true, recurses := true, named := ["math/bits.deBruijn32tab"], apart := false, laid := [("math/bits.deBruijn32tab", laid_math_bits_deBruijn32tab)], narrowed := true }
def GreetSameUptoSaid : Prop := greetSameUptoRow.holds Tryz.pinned (OpenSpec.upto greetSameSpec)

/-- 'geminationlaw20.PeerJunk', WHERE WHAT IT READS IS OF BULK AT MOST 1048576: true; the input reads as it did. -/
def peerJunkUptoRow : OpenClaim := { program := "ytlaijgoahmigmaagreatdoor", sum := "ad6f0c202809805df695e757a9eaf8da7fa8bc1f17bf951425708d722e3dac8f", func := "gemination/geminationlaw20.PeerJunk", spec := "peerJunk", inPlace := ["internal/reflectlite.ValueOf", "(internal/reflectlite.Value).Type", "(internal/reflectlite.Value).IsNil", "internal/reflectlite.TypeOf", "(internal/reflectlite.Value).Elem", "(internal/reflectlite.Value).Set"], unfollowed := true, recurses := true, named := ["errors.errorType", "math/bits.deBruijn32tab"], apart := false, laid := [("math/bits.deBruijn32tab", laid_math_bits_deBruijn32tab), ("errors.errorType", laid_errors_errorType)], narrowed := true }
def PeerJunkUptoSaid : Prop := peerJunkUptoRow.holds Tryz.pinned (OpenSpec.upto peerJunkSpec)

end Rows
end Go.Proofs.YtlaijgoahmigmaaGreatDoor
