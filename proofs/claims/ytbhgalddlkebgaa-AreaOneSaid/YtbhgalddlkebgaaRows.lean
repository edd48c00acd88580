/-
  No cell of these rows narrows 'for every input' (looked for: loops, veiled, ifaces, maps, wideKeys, modest, calm, conditions, laid).
  DERIVED. THE GIVEN ROWS OF THIS SEAT. 19 by the template 'for every input the law returns true; each argument reads behind the call as it read before'; 0 by the template 'total and deterministic' (their statements: YtbhgalddlkebgaaTotals.lean).
  GIVEN WITH THE SEED: the statements are not yours to turn. If you find one false, say at which input.
  Laid BY PROGRAM, IN A SANDBOX (cutbox-rows.mjs): the forced cells as the released guide's own fill.sh prints them over the translation 6276032b5c1ce40d… (all of the seat's roots in one cut). By AI agents, Wed Nov 11 2026. No macro, syntax, notation, axiom, sorry.
-/
import Derived.Test.YtbhgalddlkebgaaChecked
import GoSem.Claim
import GoSem.ClaimJoined
import GoSem.ClaimMapViews
import Derived.JoinedTies
import Derived.KernelRfl
namespace Go.Proofs.Ytbhgalddlkebgaa
/- THE CELL 'sum', in the pinned program and in every row, IS THE sha256 OF THE DUMP (.gsa) THAT YtbhgalddlkebgaaProg.lean LOADS. Nothing in Lean hashes anything: it is a label: what it is worth is what the hold of that sum in a sandbox is worth. -/
noncomputable def Try.pinned : Pinned := { name := "ytbhgalddlkebgaa", sum := "6276032b5c1ce40d79059edfcde1531e3e21ce4298e45de9704b4e51dc07c556", checked := Try.checked }
namespace Rows
def none {H : Type} : Left H := { results := [], args := [] }

/-- 'geminationlaw02.CheckSums': WHATEVER THE INPUT: true; the input reads as it did. -/
def checkSumsSpec : ChangeSpec := { name := "checkSums", fn := fun _ => fun
  | [d] => { results := [.lit (.bool true)], args := [d] }
  | _ => none }
def checkSumsRow : OpenClaim := { program := "ytbhgalddlkebgaa", sum := "6276032b5c1ce40d79059edfcde1531e3e21ce4298e45de9704b4e51dc07c556", func := "gemination/geminationlaw02.CheckSums", spec := "checkSums", apart := false }
def CheckSumsSaid : Prop := checkSumsRow.holds Try.pinned (OpenSpec.ofChange checkSumsSpec)

/-- ITS FALSE NEIGHBOUR: 'it returns false'. Refute it at one input. -/
def checkSumsWrong : ChangeSpec := { name := "checkSums", fn := fun _ => fun
  | [d] => { results := [.lit (.bool false)], args := [d] }
  | _ => none }
def CheckSumsWrongFalsely : Prop := checkSumsRow.holds Try.pinned (OpenSpec.ofChange checkSumsWrong)

/-- 'geminationlaw02.CheckBack': WHATEVER THE INPUT: true; the input reads as it did. -/
def checkBackSpec : ChangeSpec := { name := "checkBack", fn := fun _ => fun
  | [d1, d2, d3] => { results := [.lit (.bool true)], args := [d1, d2, d3] }
  | _ => none }
def checkBackRow : OpenClaim := { program := "ytbhgalddlkebgaa", sum := "6276032b5c1ce40d79059edfcde1531e3e21ce4298e45de9704b4e51dc07c556", func := "gemination/geminationlaw02.CheckBack", spec := "checkBack", apart := false }
def CheckBackSaid : Prop := checkBackRow.holds Try.pinned (OpenSpec.ofChange checkBackSpec)

/-- ITS FALSE NEIGHBOUR: 'it returns false'. Refute it at one input. -/
def checkBackWrong : ChangeSpec := { name := "checkBack", fn := fun _ => fun
  | [d1, d2, d3] => { results := [.lit (.bool false)], args := [d1, d2, d3] }
  | _ => none }
def CheckBackWrongFalsely : Prop := checkBackRow.holds Try.pinned (OpenSpec.ofChange checkBackWrong)

/-- 'geminationlaw02.CheckGrows': WHATEVER THE INPUT: true; the input reads as it did. -/
def checkGrowsSpec : ChangeSpec := { name := "checkGrows", fn := fun _ => fun
  | [d1, d2] => { results := [.lit (.bool true)], args := [d1, d2] }
  | _ => none }
def checkGrowsRow : OpenClaim := { program := "ytbhgalddlkebgaa", sum := "6276032b5c1ce40d79059edfcde1531e3e21ce4298e45de9704b4e51dc07c556", func := "gemination/geminationlaw02.CheckGrows", spec := "checkGrows", apart := false }
def CheckGrowsSaid : Prop := checkGrowsRow.holds Try.pinned (OpenSpec.ofChange checkGrowsSpec)

/-- ITS FALSE NEIGHBOUR: 'it returns false'. Refute it at one input. -/
def checkGrowsWrong : ChangeSpec := { name := "checkGrows", fn := fun _ => fun
  | [d1, d2] => { results := [.lit (.bool false)], args := [d1, d2] }
  | _ => none }
def CheckGrowsWrongFalsely : Prop := checkGrowsRow.holds Try.pinned (OpenSpec.ofChange checkGrowsWrong)

/-- 'geminationlaw01.NumPuts': WHATEVER THE INPUT: true; the input reads as it did. -/
def numPutsSpec : ChangeSpec := { name := "numPuts", fn := fun _ => fun
  | [d1, d2] => { results := [.lit (.bool true)], args := [d1, d2] }
  | _ => none }
def numPutsRow : OpenClaim := { program := "ytbhgalddlkebgaa", sum := "6276032b5c1ce40d79059edfcde1531e3e21ce4298e45de9704b4e51dc07c556", func := "gemination/geminationlaw01.NumPuts", spec := "numPuts", apart := false }
def NumPutsSaid : Prop := numPutsRow.holds Try.pinned (OpenSpec.ofChange numPutsSpec)

/-- ITS FALSE NEIGHBOUR: 'it returns false'. Refute it at one input. -/
def numPutsWrong : ChangeSpec := { name := "numPuts", fn := fun _ => fun
  | [d1, d2] => { results := [.lit (.bool false)], args := [d1, d2] }
  | _ => none }
def NumPutsWrongFalsely : Prop := numPutsRow.holds Try.pinned (OpenSpec.ofChange numPutsWrong)

/-- 'geminationlaw01.NumFlags': WHATEVER THE INPUT: true; the input reads as it did. -/
def numFlagsSpec : ChangeSpec := { name := "numFlags", fn := fun _ => fun
  | [d1, d2, d3] => { results := [.lit (.bool true)], args := [d1, d2, d3] }
  | _ => none }
def numFlagsRow : OpenClaim := { program := "ytbhgalddlkebgaa", sum := "6276032b5c1ce40d79059edfcde1531e3e21ce4298e45de9704b4e51dc07c556", func := "gemination/geminationlaw01.NumFlags", spec := "numFlags", apart := false }
def NumFlagsSaid : Prop := numFlagsRow.holds Try.pinned (OpenSpec.ofChange numFlagsSpec)

/-- ITS FALSE NEIGHBOUR: 'it returns false'. Refute it at one input. -/
def numFlagsWrong : ChangeSpec := { name := "numFlags", fn := fun _ => fun
  | [d1, d2, d3] => { results := [.lit (.bool false)], args := [d1, d2, d3] }
  | _ => none }
def NumFlagsWrongFalsely : Prop := numFlagsRow.holds Try.pinned (OpenSpec.ofChange numFlagsWrong)

/-- 'geminationlaw01.NumBack': WHATEVER THE INPUT: true; the input reads as it did. -/
def numBackSpec : ChangeSpec := { name := "numBack", fn := fun _ => fun
  | [d1, d2, d3] => { results := [.lit (.bool true)], args := [d1, d2, d3] }
  | _ => none }
def numBackRow : OpenClaim := { program := "ytbhgalddlkebgaa", sum := "6276032b5c1ce40d79059edfcde1531e3e21ce4298e45de9704b4e51dc07c556", func := "gemination/geminationlaw01.NumBack", spec := "numBack", apart := false }
def NumBackSaid : Prop := numBackRow.holds Try.pinned (OpenSpec.ofChange numBackSpec)

/-- ITS FALSE NEIGHBOUR: 'it returns false'. Refute it at one input. -/
def numBackWrong : ChangeSpec := { name := "numBack", fn := fun _ => fun
  | [d1, d2, d3] => { results := [.lit (.bool false)], args := [d1, d2, d3] }
  | _ => none }
def NumBackWrongFalsely : Prop := numBackRow.holds Try.pinned (OpenSpec.ofChange numBackWrong)

/-- 'geminationlaw10.HelloMakes': WHATEVER THE INPUT: true; the input reads as it did. -/
def helloMakesSpec : ChangeSpec := { name := "helloMakes", fn := fun _ => fun
  | [d1, d2, d3] => { results := [.lit (.bool true)], args := [d1, d2, d3] }
  | _ => none }
def helloMakesRow : OpenClaim := { program := "ytbhgalddlkebgaa", sum := "6276032b5c1ce40d79059edfcde1531e3e21ce4298e45de9704b4e51dc07c556", func := "gemination/geminationlaw10.HelloMakes", spec := "helloMakes", apart := false }
def HelloMakesSaid : Prop := helloMakesRow.holds Try.pinned (OpenSpec.ofChange helloMakesSpec)

/-- ITS FALSE NEIGHBOUR: 'it returns false'. Refute it at one input. -/
def helloMakesWrong : ChangeSpec := { name := "helloMakes", fn := fun _ => fun
  | [d1, d2, d3] => { results := [.lit (.bool false)], args := [d1, d2, d3] }
  | _ => none }
def HelloMakesWrongFalsely : Prop := helloMakesRow.holds Try.pinned (OpenSpec.ofChange helloMakesWrong)

/-- 'geminationlaw10.HelloBytes': WHATEVER THE INPUT: true; the input reads as it did. -/
def helloBytesSpec : ChangeSpec := { name := "helloBytes", fn := fun _ => fun
  | [d1, d2] => { results := [.lit (.bool true)], args := [d1, d2] }
  | _ => none }
def helloBytesRow : OpenClaim := { program := "ytbhgalddlkebgaa", sum := "6276032b5c1ce40d79059edfcde1531e3e21ce4298e45de9704b4e51dc07c556", func := "gemination/geminationlaw10.HelloBytes", spec := "helloBytes", apart := false }
def HelloBytesSaid : Prop := helloBytesRow.holds Try.pinned (OpenSpec.ofChange helloBytesSpec)

/-- ITS FALSE NEIGHBOUR: 'it returns false'. Refute it at one input. -/
def helloBytesWrong : ChangeSpec := { name := "helloBytes", fn := fun _ => fun
  | [d1, d2] => { results := [.lit (.bool false)], args := [d1, d2] }
  | _ => none }
def HelloBytesWrongFalsely : Prop := helloBytesRow.holds Try.pinned (OpenSpec.ofChange helloBytesWrong)

/-- 'geminationlaw10.HelloBack': WHATEVER THE INPUT: true; the input reads as it did. -/
def helloBackSpec : ChangeSpec := { name := "helloBack", fn := fun _ => fun
  | [d1, d2] => { results := [.lit (.bool true)], args := [d1, d2] }
  | _ => none }
def helloBackRow : OpenClaim := { program := "ytbhgalddlkebgaa", sum := "6276032b5c1ce40d79059edfcde1531e3e21ce4298e45de9704b4e51dc07c556", func := "gemination/geminationlaw10.HelloBack", spec := "helloBack", apart := false }
def HelloBackSaid : Prop := helloBackRow.holds Try.pinned (OpenSpec.ofChange helloBackSpec)

/-- ITS FALSE NEIGHBOUR: 'it returns false'. Refute it at one input. -/
def helloBackWrong : ChangeSpec := { name := "helloBack", fn := fun _ => fun
  | [d1, d2] => { results := [.lit (.bool false)], args := [d1, d2] }
  | _ => none }
def HelloBackWrongFalsely : Prop := helloBackRow.holds Try.pinned (OpenSpec.ofChange helloBackWrong)

/-- 'geminationlaw04.DiskNews': WHATEVER THE INPUT: true; the input reads as it did. -/
def diskNewsSpec : ChangeSpec := { name := "diskNews", fn := fun _ => fun
  | [d1, d2, d3] => { results := [.lit (.bool true)], args := [d1, d2, d3] }
  | _ => none }
def diskNewsRow : OpenClaim := { program := "ytbhgalddlkebgaa", sum := "6276032b5c1ce40d79059edfcde1531e3e21ce4298e45de9704b4e51dc07c556", func := "gemination/geminationlaw04.DiskNews", spec := "diskNews", unfollowed := true, recurses := true, apart := false }
def DiskNewsSaid : Prop := diskNewsRow.holds Try.pinned (OpenSpec.ofChange diskNewsSpec)

/-- ITS FALSE NEIGHBOUR: 'it returns false'. Refute it at one input. -/
def diskNewsWrong : ChangeSpec := { name := "diskNews", fn := fun _ => fun
  | [d1, d2, d3] => { results := [.lit (.bool false)], args := [d1, d2, d3] }
  | _ => none }
def DiskNewsWrongFalsely : Prop := diskNewsRow.holds Try.pinned (OpenSpec.ofChange diskNewsWrong)

/-- 'geminationlaw04.DiskWrites': WHATEVER THE INPUT: true; the input reads as it did. -/
def diskWritesSpec : ChangeSpec := { name := "diskWrites", fn := fun _ => fun
  | [d1, d2, d3] => { results := [.lit (.bool true)], args := [d1, d2, d3] }
  | _ => none }
def diskWritesRow : OpenClaim := { program := "ytbhgalddlkebgaa", sum := "6276032b5c1ce40d79059edfcde1531e3e21ce4298e45de9704b4e51dc07c556", func := "gemination/geminationlaw04.DiskWrites", spec := "diskWrites", unfollowed := true, recurses := true, apart := false }
def DiskWritesSaid : Prop := diskWritesRow.holds Try.pinned (OpenSpec.ofChange diskWritesSpec)

/-- ITS FALSE NEIGHBOUR: 'it returns false'. Refute it at one input. -/
def diskWritesWrong : ChangeSpec := { name := "diskWrites", fn := fun _ => fun
  | [d1, d2, d3] => { results := [.lit (.bool false)], args := [d1, d2, d3] }
  | _ => none }
def DiskWritesWrongFalsely : Prop := diskWritesRow.holds Try.pinned (OpenSpec.ofChange diskWritesWrong)

/-- 'geminationlaw04.DiskRevives': WHATEVER THE INPUT: true; the input reads as it did. -/
def diskRevivesSpec : ChangeSpec := { name := "diskRevives", fn := fun _ => fun
  | [d1, d2, d3] => { results := [.lit (.bool true)], args := [d1, d2, d3] }
  | _ => none }
def diskRevivesRow : OpenClaim := { program := "ytbhgalddlkebgaa", sum := "6276032b5c1ce40d79059edfcde1531e3e21ce4298e45de9704b4e51dc07c556", func := "gemination/geminationlaw04.DiskRevives", spec := "diskRevives", unfollowed := true, recurses := true, apart := false }
def DiskRevivesSaid : Prop := diskRevivesRow.holds Try.pinned (OpenSpec.ofChange diskRevivesSpec)

/-- ITS FALSE NEIGHBOUR: 'it returns false'. Refute it at one input. -/
def diskRevivesWrong : ChangeSpec := { name := "diskRevives", fn := fun _ => fun
  | [d1, d2, d3] => { results := [.lit (.bool false)], args := [d1, d2, d3] }
  | _ => none }
def DiskRevivesWrongFalsely : Prop := diskRevivesRow.holds Try.pinned (OpenSpec.ofChange diskRevivesWrong)

/-- 'geminationlaw04.DiskAtomic': WHATEVER THE INPUT: true; the input reads as it did. -/
def diskAtomicSpec : ChangeSpec := { name := "diskAtomic", fn := fun _ => fun
  | [d1, d2] => { results := [.lit (.bool true)], args := [d1, d2] }
  | _ => none }
def diskAtomicRow : OpenClaim := { program := "ytbhgalddlkebgaa", sum := "6276032b5c1ce40d79059edfcde1531e3e21ce4298e45de9704b4e51dc07c556", func := "gemination/geminationlaw04.DiskAtomic", spec := "diskAtomic", unfollowed := true, recurses := true, apart := false }
def DiskAtomicSaid : Prop := diskAtomicRow.holds Try.pinned (OpenSpec.ofChange diskAtomicSpec)

/-- ITS FALSE NEIGHBOUR: 'it returns false'. Refute it at one input. -/
def diskAtomicWrong : ChangeSpec := { name := "diskAtomic", fn := fun _ => fun
  | [d1, d2] => { results := [.lit (.bool false)], args := [d1, d2] }
  | _ => none }
def DiskAtomicWrongFalsely : Prop := diskAtomicRow.holds Try.pinned (OpenSpec.ofChange diskAtomicWrong)

/-- 'geminationlaw04.DiskFuses': WHATEVER THE INPUT: true; the input reads as it did. -/
def diskFusesSpec : ChangeSpec := { name := "diskFuses", fn := fun _ => fun
  | [d1, d2, d3] => { results := [.lit (.bool true)], args := [d1, d2, d3] }
  | _ => none }
def diskFusesRow : OpenClaim := { program := "ytbhgalddlkebgaa", sum := "6276032b5c1ce40d79059edfcde1531e3e21ce4298e45de9704b4e51dc07c556", func := "gemination/geminationlaw04.DiskFuses", spec := "diskFuses", unfollowed := true, recurses := true, apart := false }
def DiskFusesSaid : Prop := diskFusesRow.holds Try.pinned (OpenSpec.ofChange diskFusesSpec)

/-- ITS FALSE NEIGHBOUR: 'it returns false'. Refute it at one input. -/
def diskFusesWrong : ChangeSpec := { name := "diskFuses", fn := fun _ => fun
  | [d1, d2, d3] => { results := [.lit (.bool false)], args := [d1, d2, d3] }
  | _ => none }
def DiskFusesWrongFalsely : Prop := diskFusesRow.holds Try.pinned (OpenSpec.ofChange diskFusesWrong)

/-- 'geminationlaw08.BitsTells': WHATEVER THE INPUT: true; the input reads as it did. -/
def bitsTellsSpec : ChangeSpec := { name := "bitsTells", fn := fun _ => fun
  | [d1, d2] => { results := [.lit (.bool true)], args := [d1, d2] }
  | _ => none }
def bitsTellsRow : OpenClaim := { program := "ytbhgalddlkebgaa", sum := "6276032b5c1ce40d79059edfcde1531e3e21ce4298e45de9704b4e51dc07c556", func := "gemination/geminationlaw08.BitsTells", spec := "bitsTells", unfollowed := true, recurses := true, apart := false }
def BitsTellsSaid : Prop := bitsTellsRow.holds Try.pinned (OpenSpec.ofChange bitsTellsSpec)

/-- ITS FALSE NEIGHBOUR: 'it returns false'. Refute it at one input. -/
def bitsTellsWrong : ChangeSpec := { name := "bitsTells", fn := fun _ => fun
  | [d1, d2] => { results := [.lit (.bool false)], args := [d1, d2] }
  | _ => none }
def BitsTellsWrongFalsely : Prop := bitsTellsRow.holds Try.pinned (OpenSpec.ofChange bitsTellsWrong)

/-- 'geminationlaw08.BitsSure': WHATEVER THE INPUT: true; the input reads as it did. -/
def bitsSureSpec : ChangeSpec := { name := "bitsSure", fn := fun _ => fun
  | [d1, d2, d3] => { results := [.lit (.bool true)], args := [d1, d2, d3] }
  | _ => none }
def bitsSureRow : OpenClaim := { program := "ytbhgalddlkebgaa", sum := "6276032b5c1ce40d79059edfcde1531e3e21ce4298e45de9704b4e51dc07c556", func := "gemination/geminationlaw08.BitsSure", spec := "bitsSure", unfollowed := true, recurses := true, apart := false }
def BitsSureSaid : Prop := bitsSureRow.holds Try.pinned (OpenSpec.ofChange bitsSureSpec)

/-- ITS FALSE NEIGHBOUR: 'it returns false'. Refute it at one input. -/
def bitsSureWrong : ChangeSpec := { name := "bitsSure", fn := fun _ => fun
  | [d1, d2, d3] => { results := [.lit (.bool false)], args := [d1, d2, d3] }
  | _ => none }
def BitsSureWrongFalsely : Prop := bitsSureRow.holds Try.pinned (OpenSpec.ofChange bitsSureWrong)

/-- 'geminationlaw09.AreaTells': WHATEVER THE INPUT: true; the input reads as it did. -/
def areaTellsSpec : ChangeSpec := { name := "areaTells", fn := fun _ => fun
  | [d1, d2, d3] => { results := [.lit (.bool true)], args := [d1, d2, d3] }
  | _ => none }
def areaTellsRow : OpenClaim := { program := "ytbhgalddlkebgaa", sum := "6276032b5c1ce40d79059edfcde1531e3e21ce4298e45de9704b4e51dc07c556", func := "gemination/geminationlaw09.AreaTells", spec := "areaTells", inPlace := ["internal/abi.NoEscape", "internal/bytealg.MakeNoZero"], unfollowed := true, recurses := true, apart := false }
def AreaTellsSaid : Prop := areaTellsRow.holds Try.pinned (OpenSpec.ofChange areaTellsSpec)

/-- ITS FALSE NEIGHBOUR: 'it returns false'. Refute it at one input. -/
def areaTellsWrong : ChangeSpec := { name := "areaTells", fn := fun _ => fun
  | [d1, d2, d3] => { results := [.lit (.bool false)], args := [d1, d2, d3] }
  | _ => none }
def AreaTellsWrongFalsely : Prop := areaTellsRow.holds Try.pinned (OpenSpec.ofChange areaTellsWrong)

/-- 'geminationlaw09.AreaFormats': WHATEVER THE INPUT: true; the input reads as it did. -/
def areaFormatsSpec : ChangeSpec := { name := "areaFormats", fn := fun _ => fun
  | [d1, d2] => { results := [.lit (.bool true)], args := [d1, d2] }
  | _ => none }
def areaFormatsRow : OpenClaim := { program := "ytbhgalddlkebgaa", sum := "6276032b5c1ce40d79059edfcde1531e3e21ce4298e45de9704b4e51dc07c556", func := "gemination/geminationlaw09.AreaFormats", spec := "areaFormats", inPlace := ["internal/abi.NoEscape", "internal/bytealg.MakeNoZero"], unfollowed := true, recurses := true, apart := false }
def AreaFormatsSaid : Prop := areaFormatsRow.holds Try.pinned (OpenSpec.ofChange areaFormatsSpec)

/-- ITS FALSE NEIGHBOUR: 'it returns false'. Refute it at one input. -/
def areaFormatsWrong : ChangeSpec := { name := "areaFormats", fn := fun _ => fun
  | [d1, d2] => { results := [.lit (.bool false)], args := [d1, d2] }
  | _ => none }
def AreaFormatsWrongFalsely : Prop := areaFormatsRow.holds Try.pinned (OpenSpec.ofChange areaFormatsWrong)

/-- 'geminationlaw09.AreaOne': WHATEVER THE INPUT: true; the input reads as it did. -/
def areaOneSpec : ChangeSpec := { name := "areaOne", fn := fun _ => fun
  | [d1, d2, d3] => { results := [.lit (.bool true)], args := [d1, d2, d3] }
  | _ => none }
def areaOneRow : OpenClaim := { program := "ytbhgalddlkebgaa", sum := "6276032b5c1ce40d79059edfcde1531e3e21ce4298e45de9704b4e51dc07c556", func := "gemination/geminationlaw09.AreaOne", spec := "areaOne", inPlace := ["internal/abi.NoEscape", "internal/bytealg.MakeNoZero"], unfollowed := true, recurses := true, apart := false }
def AreaOneSaid : Prop := areaOneRow.holds Try.pinned (OpenSpec.ofChange areaOneSpec)

/-- ITS FALSE NEIGHBOUR: 'it returns false'. Refute it at one input. -/
def areaOneWrong : ChangeSpec := { name := "areaOne", fn := fun _ => fun
  | [d1, d2, d3] => { results := [.lit (.bool false)], args := [d1, d2, d3] }
  | _ => none }
def AreaOneWrongFalsely : Prop := areaOneRow.holds Try.pinned (OpenSpec.ofChange areaOneWrong)

/- THE SECOND FORM. 'bulk': how many values and letters a reading holds, each counted each time it is reached (what is shared counts as often as it is met; a slice's spare places count too). A statement '..UptoSaid' is the law's where the arguments, and the package variables that the reading takes, are together of bulk at most 1048576: NARROWER than '..Said'. Prove '..Said' where nothing that the law and all that it calls make is longer than what came in: it says more and counts as full. Else prove '..UptoSaid'. A law counts once. -/
mutual
def uptoBulk {H : Type} : DataW H → Nat
  | .lit (.string bytes) => bytes.length + 1
  | .lit _ => 1
  | .nil => 1
  | .ptr d => uptoBulk d + 1
  | .slice elems spare => uptoBulkAll elems + uptoBulkAll spare + 1
  | .agg parts => uptoBulkAll parts + 1
  | .iface _ d => uptoBulk d + 1
  | .map entries => uptoBulkEntries entries + 1
  | .held _ => 1
def uptoBulkAll {H : Type} : List (DataW H) → Nat
  | [] => 0
  | d :: r => uptoBulk d + uptoBulkAll r
def uptoBulkEntries {H : Type} : List (Lit × DataW H) → Nat
  | [] => 0
  | x :: r => uptoBulkEntry x + uptoBulkEntries r
def uptoBulkEntry {H : Type} : Lit × DataW H → Nat
  | (.string bytes, d) => bytes.length + uptoBulk d + 1
  | (_, d) => uptoBulk d + 1
 end
def uptoSmall : (H : Type) → List (DataW H) → Bool := fun _ ds => decide (uptoBulkAll ds ≤ 1048576)
def OpenSpec.upto (s : _root_.Go.ChangeSpec) : _root_.Go.OpenSpec := { _root_.Go.OpenSpec.ofChange s with cond := some uptoSmall }

/-- 'geminationlaw02.CheckSums', WHERE WHAT IT READS IS OF BULK AT MOST 1048576: true; the input reads as it did. -/
def checkSumsUptoRow : OpenClaim := { program := "ytbhgalddlkebgaa", sum := "6276032b5c1ce40d79059edfcde1531e3e21ce4298e45de9704b4e51dc07c556", func := "gemination/geminationlaw02.CheckSums", spec := "checkSums", apart := false, narrowed := true }
def CheckSumsUptoSaid : Prop := checkSumsUptoRow.holds Try.pinned (OpenSpec.upto checkSumsSpec)

/-- 'geminationlaw02.CheckBack', WHERE WHAT IT READS IS OF BULK AT MOST 1048576: true; the input reads as it did. -/
def checkBackUptoRow : OpenClaim := { program := "ytbhgalddlkebgaa", sum := "6276032b5c1ce40d79059edfcde1531e3e21ce4298e45de9704b4e51dc07c556", func := "gemination/geminationlaw02.CheckBack", spec := "checkBack", apart := false, narrowed := true }
def CheckBackUptoSaid : Prop := checkBackUptoRow.holds Try.pinned (OpenSpec.upto checkBackSpec)

/-- 'geminationlaw02.CheckGrows', WHERE WHAT IT READS IS OF BULK AT MOST 1048576: true; the input reads as it did. -/
def checkGrowsUptoRow : OpenClaim := { program := "ytbhgalddlkebgaa", sum := "6276032b5c1ce40d79059edfcde1531e3e21ce4298e45de9704b4e51dc07c556", func := "gemination/geminationlaw02.CheckGrows", spec := "checkGrows", apart := false, narrowed := true }
def CheckGrowsUptoSaid : Prop := checkGrowsUptoRow.holds Try.pinned (OpenSpec.upto checkGrowsSpec)

/-- 'geminationlaw01.NumPuts', WHERE WHAT IT READS IS OF BULK AT MOST 1048576: true; the input reads as it did. -/
def numPutsUptoRow : OpenClaim := { program := "ytbhgalddlkebgaa", sum := "6276032b5c1ce40d79059edfcde1531e3e21ce4298e45de9704b4e51dc07c556", func := "gemination/geminationlaw01.NumPuts", spec := "numPuts", apart := false, narrowed := true }
def NumPutsUptoSaid : Prop := numPutsUptoRow.holds Try.pinned (OpenSpec.upto numPutsSpec)

/-- 'geminationlaw01.NumFlags', WHERE WHAT IT READS IS OF BULK AT MOST 1048576: true; the input reads as it did. -/
def numFlagsUptoRow : OpenClaim := { program := "ytbhgalddlkebgaa", sum := "6276032b5c1ce40d79059edfcde1531e3e21ce4298e45de9704b4e51dc07c556", func := "gemination/geminationlaw01.NumFlags", spec := "numFlags", apart := false, narrowed := true }
def NumFlagsUptoSaid : Prop := numFlagsUptoRow.holds Try.pinned (OpenSpec.upto numFlagsSpec)

/-- 'geminationlaw01.NumBack', WHERE WHAT IT READS IS OF BULK AT MOST 1048576: true; the input reads as it did. -/
def numBackUptoRow : OpenClaim := { program := "ytbhgalddlkebgaa", sum := "6276032b5c1ce40d79059edfcde1531e3e21ce4298e45de9704b4e51dc07c556", func := "gemination/geminationlaw01.NumBack", spec := "numBack", apart := false, narrowed := true }
def NumBackUptoSaid : Prop := numBackUptoRow.holds Try.pinned (OpenSpec.upto numBackSpec)

/-- 'geminationlaw10.HelloMakes', WHERE WHAT IT READS IS OF BULK AT MOST 1048576: true; the input reads as it did. -/
def helloMakesUptoRow : OpenClaim := { program := "ytbhgalddlkebgaa", sum := "6276032b5c1ce40d79059edfcde1531e3e21ce4298e45de9704b4e51dc07c556", func := "gemination/geminationlaw10.HelloMakes", spec := "helloMakes", apart := false, narrowed := true }
def HelloMakesUptoSaid : Prop := helloMakesUptoRow.holds Try.pinned (OpenSpec.upto helloMakesSpec)

/-- 'geminationlaw10.HelloBytes', WHERE WHAT IT READS IS OF BULK AT MOST 1048576: true; the input reads as it did. -/
def helloBytesUptoRow : OpenClaim := { program := "ytbhgalddlkebgaa", sum := "6276032b5c1ce40d79059edfcde1531e3e21ce4298e45de9704b4e51dc07c556", func := "gemination/geminationlaw10.HelloBytes", spec := "helloBytes", apart := false, narrowed := true }
def HelloBytesUptoSaid : Prop := helloBytesUptoRow.holds Try.pinned (OpenSpec.upto helloBytesSpec)

/-- 'geminationlaw10.HelloBack', WHERE WHAT IT READS IS OF BULK AT MOST 1048576: true; the input reads as it did. -/
def helloBackUptoRow : OpenClaim := { program := "ytbhgalddlkebgaa", sum := "6276032b5c1ce40d79059edfcde1531e3e21ce4298e45de9704b4e51dc07c556", func := "gemination/geminationlaw10.HelloBack", spec := "helloBack", apart := false, narrowed := true }
def HelloBackUptoSaid : Prop := helloBackUptoRow.holds Try.pinned (OpenSpec.upto helloBackSpec)

/-- 'geminationlaw04.DiskNews', WHERE WHAT IT READS IS OF BULK AT MOST 1048576: true; the input reads as it did. -/
def diskNewsUptoRow : OpenClaim := { program := "ytbhgalddlkebgaa", sum := "6276032b5c1ce40d79059edfcde1531e3e21ce4298e45de9704b4e51dc07c556", func := "gemination/geminationlaw04.DiskNews", spec := "diskNews", unfollowed := true, recurses := true, apart := false, narrowed := true }
def DiskNewsUptoSaid : Prop := diskNewsUptoRow.holds Try.pinned (OpenSpec.upto diskNewsSpec)

/-- 'geminationlaw04.DiskWrites', WHERE WHAT IT READS IS OF BULK AT MOST 1048576: true; the input reads as it did. -/
def diskWritesUptoRow : OpenClaim := { program := "ytbhgalddlkebgaa", sum := "6276032b5c1ce40d79059edfcde1531e3e21ce4298e45de9704b4e51dc07c556", func := "gemination/geminationlaw04.DiskWrites", spec := "diskWrites", unfollowed := true, recurses := true, apart := false, narrowed := true }
def DiskWritesUptoSaid : Prop := diskWritesUptoRow.holds Try.pinned (OpenSpec.upto diskWritesSpec)

/-- 'geminationlaw04.DiskRevives', WHERE WHAT IT READS IS OF BULK AT MOST 1048576: true; the input reads as it did. -/
def diskRevivesUptoRow : OpenClaim := { program := "ytbhgalddlkebgaa", sum := "6276032b5c1ce40d79059edfcde1531e3e21ce4298e45de9704b4e51dc07c556", func := "gemination/geminationlaw04.DiskRevives", spec := "diskRevives", unfollowed := true, recurses := true, apart := false, narrowed := true }
def DiskRevivesUptoSaid : Prop := diskRevivesUptoRow.holds Try.pinned (OpenSpec.upto diskRevivesSpec)

/-- 'geminationlaw04.DiskAtomic', WHERE WHAT IT READS IS OF BULK AT MOST 1048576: true; the input reads as it did. -/
def diskAtomicUptoRow : OpenClaim := { program := "ytbhgalddlkebgaa", sum := "6276032b5c1ce40d79059edfcde1531e3e21ce4298e45de9704b4e51dc07c556", func := "gemination/geminationlaw04.DiskAtomic", spec := "diskAtomic", unfollowed := true, recurses := true, apart := false, narrowed := true }
def DiskAtomicUptoSaid : Prop := diskAtomicUptoRow.holds Try.pinned (OpenSpec.upto diskAtomicSpec)

/-- 'geminationlaw04.DiskFuses', WHERE WHAT IT READS IS OF BULK AT MOST 1048576: true; the input reads as it did. -/
def diskFusesUptoRow : OpenClaim := { program := "ytbhgalddlkebgaa", sum := "6276032b5c1ce40d79059edfcde1531e3e21ce4298e45de9704b4e51dc07c556", func := "gemination/geminationlaw04.DiskFuses", spec := "diskFuses", unfollowed := true, recurses := true, apart := false, narrowed := true }
def DiskFusesUptoSaid : Prop := diskFusesUptoRow.holds Try.pinned (OpenSpec.upto diskFusesSpec)

/-- 'geminationlaw08.BitsTells', WHERE WHAT IT READS IS OF BULK AT MOST 1048576: true; the input reads as it did. -/
def bitsTellsUptoRow : OpenClaim := { program := "ytbhgalddlkebgaa", sum := "6276032b5c1ce40d79059edfcde1531e3e21ce4298e45de9704b4e51dc07c556", func := "gemination/geminationlaw08.BitsTells", spec := "bitsTells", unfollowed := true, recurses := true, apart := false, narrowed := true }
def BitsTellsUptoSaid : Prop := bitsTellsUptoRow.holds Try.pinned (OpenSpec.upto bitsTellsSpec)

/-- 'geminationlaw08.BitsSure', WHERE WHAT IT READS IS OF BULK AT MOST 1048576: true; the input reads as it did. -/
def bitsSureUptoRow : OpenClaim := { program := "ytbhgalddlkebgaa", sum := "6276032b5c1ce40d79059edfcde1531e3e21ce4298e45de9704b4e51dc07c556", func := "gemination/geminationlaw08.BitsSure", spec := "bitsSure", unfollowed := true, recurses := true, apart := false, narrowed := true }
def BitsSureUptoSaid : Prop := bitsSureUptoRow.holds Try.pinned (OpenSpec.upto bitsSureSpec)

/-- 'geminationlaw09.AreaTells', WHERE WHAT IT READS IS OF BULK AT MOST 1048576: true; the input reads as it did. -/
def areaTellsUptoRow : OpenClaim := { program := "ytbhgalddlkebgaa", sum := "6276032b5c1ce40d79059edfcde1531e3e21ce4298e45de9704b4e51dc07c556", func := "gemination/geminationlaw09.AreaTells", spec := "areaTells", inPlace := ["internal/abi.NoEscape", "internal/bytealg.MakeNoZero"], unfollowed := true, recurses := true, apart := false, narrowed := true }
def AreaTellsUptoSaid : Prop := areaTellsUptoRow.holds Try.pinned (OpenSpec.upto areaTellsSpec)

/-- 'geminationlaw09.AreaFormats', WHERE WHAT IT READS IS OF BULK AT MOST 1048576: true; the input reads as it did. -/
def areaFormatsUptoRow : OpenClaim := { program := "ytbhgalddlkebgaa", sum := "6276032b5c1ce40d79059edfcde1531e3e21ce4298e45de9704b4e51dc07c556", func := "gemination/geminationlaw09.AreaFormats", spec := "areaFormats", inPlace := ["internal/abi.NoEscape", "internal/bytealg.MakeNoZero"], unfollowed := true, recurses := true, apart := false, narrowed := true }
def AreaFormatsUptoSaid : Prop := areaFormatsUptoRow.holds Try.pinned (OpenSpec.upto areaFormatsSpec)

/-- 'geminationlaw09.AreaOne', WHERE WHAT IT READS IS OF BULK AT MOST 1048576: true; the input reads as it did. -/
def areaOneUptoRow : OpenClaim := { program := "ytbhgalddlkebgaa", sum := "6276032b5c1ce40d79059edfcde1531e3e21ce4298e45de9704b4e51dc07c556", func := "gemination/geminationlaw09.AreaOne", spec := "areaOne", inPlace := ["internal/abi.NoEscape", "internal/bytealg.MakeNoZero"], unfollowed := true, recurses := true, apart := false, narrowed := true }
def AreaOneUptoSaid : Prop := areaOneUptoRow.holds Try.pinned (OpenSpec.upto areaOneSpec)

end Rows
end Go.Proofs.Ytbhgalddlkebgaa
