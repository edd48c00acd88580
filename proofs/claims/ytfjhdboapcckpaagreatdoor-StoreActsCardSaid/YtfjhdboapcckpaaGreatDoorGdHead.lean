/- The words of the program's head line. -/
import Derived.Test.YtfjhdboapcckpaaGreatDoorProg
import Derived.JoinedOf
import Derived.KernelRfl
set_option maxRecDepth 100000
namespace Gm.Head
open Go Go.Proofs
abbrev c32 : Char := Char.ofNat 32
abbrev c46 : Char := Char.ofNat 46
abbrev c47 : Char := Char.ofNat 47
abbrev c48 : Char := Char.ofNat 48
abbrev c49 : Char := Char.ofNat 49
abbrev c50 : Char := Char.ofNat 50
abbrev c51 : Char := Char.ofNat 51
abbrev c52 : Char := Char.ofNat 52
abbrev c53 : Char := Char.ofNat 53
abbrev c54 : Char := Char.ofNat 54
abbrev c55 : Char := Char.ofNat 55
abbrev c56 : Char := Char.ofNat 56
abbrev c57 : Char := Char.ofNat 57
abbrev c65 : Char := Char.ofNat 65
abbrev c75 : Char := Char.ofNat 75
abbrev c77 : Char := Char.ofNat 77
abbrev c78 : Char := Char.ofNat 78
abbrev c82 : Char := Char.ofNat 82
abbrev c83 : Char := Char.ofNat 83
abbrev c97 : Char := Char.ofNat 97
abbrev c98 : Char := Char.ofNat 98
abbrev c99 : Char := Char.ofNat 99
abbrev c100 : Char := Char.ofNat 100
abbrev c101 : Char := Char.ofNat 101
abbrev c102 : Char := Char.ofNat 102
abbrev c103 : Char := Char.ofNat 103
abbrev c104 : Char := Char.ofNat 104
abbrev c105 : Char := Char.ofNat 105
abbrev c107 : Char := Char.ofNat 107
abbrev c108 : Char := Char.ofNat 108
abbrev c109 : Char := Char.ofNat 109
abbrev c110 : Char := Char.ofNat 110
abbrev c111 : Char := Char.ofNat 111
abbrev c112 : Char := Char.ofNat 112
abbrev c114 : Char := Char.ofNat 114
abbrev c115 : Char := Char.ofNat 115
abbrev c116 : Char := Char.ofNat 116
abbrev c117 : Char := Char.ofNat 117
abbrev c119 : Char := Char.ofNat 119
def chars : List Char := [c104, c97, c114, c110, c101, c115, c115, c32, c99, c51, c54, c51, c98, c55, c101, c53, c48, c55, c102, c98, c53, c57, c57, c102, c97, c98, c97, c101, c52, c48, c100, c99, c49, c54, c54, c50, c54, c57, c102, c97, c49, c102, c102, c57, c102, c52, c101, c101, c56, c55, c57, c102, c51, c99, c52, c56, c57, c54, c54, c54, c102, c101, c55, c99, c52, c51, c102, c54, c49, c98, c100, c49, c32, c99, c117, c116, c32, c97, c116, c32, c103, c101, c109, c105, c110, c97, c116, c105, c111, c110, c47, c103, c101, c109, c105, c110, c97, c116, c105, c111, c110, c108, c97, c119, c49, c54, c46, c78, c111, c100, c101, c82, c111, c108, c101, c115, c32, c103, c101, c109, c105, c110, c97, c116, c105, c111, c110, c47, c103, c101, c109, c105, c110, c97, c116, c105, c111, c110, c108, c97, c119, c49, c54, c46, c78, c111, c100, c101, c82, c101, c97, c100, c115, c32, c103, c101, c109, c105, c110, c97, c116, c105, c111, c110, c47, c103, c101, c109, c105, c110, c97, c116, c105, c111, c110, c108, c97, c119, c49, c54, c46, c78, c111, c100, c101, c82, c101, c102, c117, c115, c101, c115, c32, c103, c101, c109, c105, c110, c97, c116, c105, c111, c110, c47, c103, c101, c109, c105, c110, c97, c116, c105, c111, c110, c108, c97, c119, c49, c54, c46, c78, c111, c100, c101, c75, c101, c101, c112, c115, c32, c103, c101, c109, c105, c110, c97, c116, c105, c111, c110, c47, c103, c101, c109, c105, c110, c97, c116, c105, c111, c110, c108, c97, c119, c49, c53, c46, c83, c116, c111, c114, c101, c77, c97, c114, c107, c115, c32, c103, c101, c109, c105, c110, c97, c116, c105, c111, c110, c47, c103, c101, c109, c105, c110, c97, c116, c105, c111, c110, c108, c97, c119, c49, c53, c46, c83, c116, c111, c114, c101, c65, c99, c116, c115]
def words : List (List Char) := [[c104, c97, c114, c110, c101, c115, c115],
  [c99, c51, c54, c51, c98, c55, c101, c53, c48, c55, c102, c98, c53, c57, c57, c102, c97, c98, c97, c101, c52, c48, c100, c99, c49, c54, c54, c50, c54, c57, c102, c97, c49, c102, c102, c57, c102, c52, c101, c101, c56, c55, c57, c102, c51, c99, c52, c56, c57, c54, c54, c54, c102, c101, c55, c99, c52, c51, c102, c54, c49, c98, c100, c49],
  [c99, c117, c116],
  [c97, c116],
  [c103, c101, c109, c105, c110, c97, c116, c105, c111, c110, c47, c103, c101, c109, c105, c110, c97, c116, c105, c111, c110, c108, c97, c119, c49, c54, c46, c78, c111, c100, c101, c82, c111, c108, c101, c115],
  [c103, c101, c109, c105, c110, c97, c116, c105, c111, c110, c47, c103, c101, c109, c105, c110, c97, c116, c105, c111, c110, c108, c97, c119, c49, c54, c46, c78, c111, c100, c101, c82, c101, c97, c100, c115],
  [c103, c101, c109, c105, c110, c97, c116, c105, c111, c110, c47, c103, c101, c109, c105, c110, c97, c116, c105, c111, c110, c108, c97, c119, c49, c54, c46, c78, c111, c100, c101, c82, c101, c102, c117, c115, c101, c115],
  [c103, c101, c109, c105, c110, c97, c116, c105, c111, c110, c47, c103, c101, c109, c105, c110, c97, c116, c105, c111, c110, c108, c97, c119, c49, c54, c46, c78, c111, c100, c101, c75, c101, c101, c112, c115],
  [c103, c101, c109, c105, c110, c97, c116, c105, c111, c110, c47, c103, c101, c109, c105, c110, c97, c116, c105, c111, c110, c108, c97, c119, c49, c53, c46, c83, c116, c111, c114, c101, c77, c97, c114, c107, c115],
  [c103, c101, c109, c105, c110, c97, c116, c105, c111, c110, c47, c103, c101, c109, c105, c110, c97, c116, c105, c111, c110, c108, c97, c119, c49, c53, c46, c83, c116, c111, c114, c101, c65, c99, c116, c115]]
theorem head : Tryz.prog.initOrder = String.ofList chars := by kernel_rfl
theorem list : Tryz.prog.initOrder.toList = chars := by rw [head]; exact String.toList_ofList
theorem split : wordsSigns chars = words := by kernel_rfl
theorem words_ok : wordsSigns Tryz.prog.initOrder.toList = words := by rw [list]; exact split
theorem behind : behindMainWord (wordsSigns Tryz.prog.initOrder.toList) = words.drop 2 := by rw [words_ok]; kernel_rfl
theorem made_of {P : Program} {c : List Char} {rest : List (List Char)} (h : behindMainWord (wordsSigns P.initOrder.toList) = c :: rest) (h1 : (c == "gc".toList) = false) (h2 : (c == "spec".toList) = false) (h3 : (c == "cut".toList) = true) : P.make = some .cut := by
  unfold Program.make
  rw [h]
  simp only [h1, h2, h3]
  rfl
theorem enter_of {P : Program} {c : List Char} {rest : List (List Char)} (h : behindMainWord (wordsSigns P.initOrder.toList) = c :: rest) (h3 : (c == "cut".toList) = true) (hs : stripLifts liftWords (c :: rest) = ([], c :: rest))
    (hl : P.laysLater = false) (hb : P.bearsReflect = false) (hd : P.doorFits [] = true) : P.mayEnter = true := by
  have e : c = "cut".toList := by simpa using h3
  subst e
  unfold Program.mayEnter
  rw [h]
  simp only [hs, hl, hb, hd]
  simp
theorem final_of {P : Program} {c : List Char} {rest : List (List Char)} (h : behindMainWord (wordsSigns P.initOrder.toList) = c :: rest) (h3 : (c == "carried".toList) = false) (hl : P.headLifts = []) : P.liftsFinal = false := by
  unfold Program.liftsFinal
  rw [h, hl]
  show ((c == "carried".toList) && _ || _) = false
  rw [h3]
  rfl
theorem lifts : Tryz.prog.headLifts = [] := by
  unfold Program.headLifts
  rw [behind]
  kernel_rfl
theorem strip : stripLifts liftWords (words.drop 2) = ([], words.drop 2) := by kernel_rfl
theorem later : Tryz.prog.laysLater = false := by kernel_rfl
theorem bears : Tryz.prog.bearsReflect = false := by kernel_rfl
theorem door : Tryz.prog.doorFits [] = true := by kernel_rfl
theorem made : Tryz.prog.make = some .cut := made_of (rest := words.drop 3) (c := [c99, c117, c116]) behind (by kernel_rfl) (by kernel_rfl) (by kernel_rfl)
theorem enter : Tryz.prog.mayEnter = true := enter_of (rest := words.drop 3) (c := [c99, c117, c116]) behind (by kernel_rfl) strip later bears door
theorem final : Tryz.prog.liftsFinal = false := final_of (rest := words.drop 3) (c := [c99, c117, c116]) behind (by kernel_rfl) lifts
end Gm.Head
