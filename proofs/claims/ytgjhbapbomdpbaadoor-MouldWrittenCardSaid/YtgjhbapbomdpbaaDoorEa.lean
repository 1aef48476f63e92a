/- The program's head, word by word, and the closed facts that hang on it: each apart, so that none wants much memory. (Printed by tools/ini.py.) -/
import Derived.Test.YtgjhbapbomdpbaaDoorE1
set_option linter.unusedVariables false
set_option linter.unusedSimpArgs false
set_option maxRecDepth 100000
namespace Go.Proofs.YtgjhbapbomdpbaaDoor.C
open Go.ChangeShapes Go.WideShapes Go.ChangeAt Go.RowKit Go.Proofs.YtgjhbapbomdpbaaDoor.Sh
def iniCs : List Char := ['h', 'a', 'r', 'n', 'e', 's', 's', ' ', 'c', 'f', '5', 'c', '0', 'd', 'e', 'd', '6', 'a', '4', 'd', 'b', '3', 'c', 'a', '1', '6', 'b', '0', '5', '4', '8', '3', '5', '1', 'f', 'd', 'b', 'd', '1', 'e', 'e', '7', 'd', '7', '6', '1', '2', 'a', '2', 'b', 'f', '8', '9', '4', '4', 'c', 'e', '2', '2', 'd', '5', 'c', 'd', 'e', '5', 'a', '2', 'f', 'e', '9', '4', '4', ' ', 'c', 'u', 't', ' ', 'a', 't', ' ', 's', 'h', 'u', 't', 't', 'l', 'e', '/', 's', 'h', 'u', 't', 't', 'l', 'e', 'l', 'a', 'w', '7', '.', 'I', 'n', 'c', 'l', 'u', 'd', 'e', 'S', 'e', 't', 's', ' ', 's', 'h', 'u', 't', 't', 'l', 'e', '/', 's', 'h', 'u', 't', 't', 'l', 'e', 'l', 'a', 'w', '7', '.', 'I', 'n', 'c', 'l', 'u', 'd', 'e', 'D', 'e', 'e', 'p', ' ', 's', 'h', 'u', 't', 't', 'l', 'e', '/', 's', 'h', 'u', 't', 't', 'l', 'e', 'l', 'a', 'w', '7', '.', 'I', 'n', 'c', 'l', 'u', 'd', 'e', 'W', 'i', 't', 'n', 'e', 's', 's', ' ', 's', 'h', 'u', 't', 't', 'l', 'e', '/', 's', 'h', 'u', 't', 't', 'l', 'e', 'l', 'a', 'w', '7', '.', 'I', 'n', 'c', 'l', 'u', 'd', 'e', 'O', 'r', 'd', 'e', 'r', ' ', 's', 'h', 'u', 't', 't', 'l', 'e', '/', 's', 'h', 'u', 't', 't', 'l', 'e', 'l', 'a', 'w', '9', '.', 'M', 'o', 'u', 'l', 'd', 'P', 'l', 'a', 'i', 'n', ' ', 's', 'h', 'u', 't', 't', 'l', 'e', '/', 's', 'h', 'u', 't', 't', 'l', 'e', 'l', 'a', 'w', '9', '.', 'M', 'o', 'u', 'l', 'd', 'W', 'r', 'i', 't', 't', 'e', 'n', ' ', 's', 'h', 'u', 't', 't', 'l', 'e', '/', 's', 'h', 'u', 't', 't', 'l', 'e', 'l', 'a', 'w', '9', '.', 'M', 'o', 'u', 'l', 'd', 'C', 'h', 'a', 'i', 'n', 's', ' ', 's', 'h', 'u', 't', 't', 'l', 'e', '/', 's', 'h', 'u', 't', 't', 'l', 'e', 'l', 'a', 'w', '9', '.', 'M', 'o', 'u', 'l', 'd', 'U', 'n', 'u', 's', 'e', 'd']
def iniWs : List (List Char) := [['h', 'a', 'r', 'n', 'e', 's', 's'], ['c', 'f', '5', 'c', '0', 'd', 'e', 'd', '6', 'a', '4', 'd', 'b', '3', 'c', 'a', '1', '6', 'b', '0', '5', '4', '8', '3', '5', '1', 'f', 'd', 'b', 'd', '1', 'e', 'e', '7', 'd', '7', '6', '1', '2', 'a', '2', 'b', 'f', '8', '9', '4', '4', 'c', 'e', '2', '2', 'd', '5', 'c', 'd', 'e', '5', 'a', '2', 'f', 'e', '9', '4', '4'], ['c', 'u', 't'], ['a', 't'], ['s', 'h', 'u', 't', 't', 'l', 'e', '/', 's', 'h', 'u', 't', 't', 'l', 'e', 'l', 'a', 'w', '7', '.', 'I', 'n', 'c', 'l', 'u', 'd', 'e', 'S', 'e', 't', 's'], ['s', 'h', 'u', 't', 't', 'l', 'e', '/', 's', 'h', 'u', 't', 't', 'l', 'e', 'l', 'a', 'w', '7', '.', 'I', 'n', 'c', 'l', 'u', 'd', 'e', 'D', 'e', 'e', 'p'], ['s', 'h', 'u', 't', 't', 'l', 'e', '/', 's', 'h', 'u', 't', 't', 'l', 'e', 'l', 'a', 'w', '7', '.', 'I', 'n', 'c', 'l', 'u', 'd', 'e', 'W', 'i', 't', 'n', 'e', 's', 's'], ['s', 'h', 'u', 't', 't', 'l', 'e', '/', 's', 'h', 'u', 't', 't', 'l', 'e', 'l', 'a', 'w', '7', '.', 'I', 'n', 'c', 'l', 'u', 'd', 'e', 'O', 'r', 'd', 'e', 'r'], ['s', 'h', 'u', 't', 't', 'l', 'e', '/', 's', 'h', 'u', 't', 't', 'l', 'e', 'l', 'a', 'w', '9', '.', 'M', 'o', 'u', 'l', 'd', 'P', 'l', 'a', 'i', 'n'], ['s', 'h', 'u', 't', 't', 'l', 'e', '/', 's', 'h', 'u', 't', 't', 'l', 'e', 'l', 'a', 'w', '9', '.', 'M', 'o', 'u', 'l', 'd', 'W', 'r', 'i', 't', 't', 'e', 'n'], ['s', 'h', 'u', 't', 't', 'l', 'e', '/', 's', 'h', 'u', 't', 't', 'l', 'e', 'l', 'a', 'w', '9', '.', 'M', 'o', 'u', 'l', 'd', 'C', 'h', 'a', 'i', 'n', 's'], ['s', 'h', 'u', 't', 't', 'l', 'e', '/', 's', 'h', 'u', 't', 't', 'l', 'e', 'l', 'a', 'w', '9', '.', 'M', 'o', 'u', 'l', 'd', 'U', 'n', 'u', 's', 'e', 'd']]
theorem ini_eq : Tryd.prog.initOrder = String.ofList iniCs := by kernel_rfl
theorem ini_words : wordsSigns Tryd.prog.initOrder.toList = iniWs := by rw [ini_eq, String.toList_ofList]; kernel_rfl
theorem ini_behind : behindMainWord (wordsSigns Tryd.prog.initOrder.toList) = iniWs.drop 2 := by rw [ini_words]; kernel_rfl
theorem mayEnter_of {P : Program} {c : List Char} {rest : List (List Char)} (h : behindMainWord (wordsSigns P.initOrder.toList) = c :: rest)
    (h1 : (stripLifts liftWords (c :: rest)) = ([], c :: rest)) (h2 : (c :: rest).head? == some "cut".toList) (h3 : P.laysLater = false) (h4 : P.bearsReflect = false) (h5 : P.doorFits [] = true) : P.mayEnter = true := by
  unfold Program.mayEnter
  rw [h]
  simp only [h1, h3, h4, h5]
  rw [h2]
  simp
theorem make_of {P : Program} {c : List Char} {rest : List (List Char)} (h : behindMainWord (wordsSigns P.initOrder.toList) = c :: rest) (h1 : (c == "gc".toList || c == "spec".toList) = false) (h2 : (c == "cut".toList) = true) : P.make = some .cut := by
  unfold Program.make
  rw [h]
  simp only [h1, h2]
  rfl
theorem lifts_of {P : Program} {ws : List (List Char)} {b : Bool} (h : behindMainWord (wordsSigns P.initOrder.toList) = ws) (h2 : ((ws.head? == some "carried".toList && ws.take 3 != ["carried".toList, "gc".toList, "cut".toList]) || (if (stripLifts liftWords ws).2.head? == some "cut".toList then (stripLifts liftWords ws).1 else []).contains "finals") = b) : P.liftsFinal = b := by
  unfold Program.liftsFinal Program.headLifts
  rw [h]
  exact h2
theorem main_of {P : Program} {a s : List Char} {r : List (List Char)} {v : Option (Bool × List Char)} (h : wordsSigns P.initOrder.toList = a :: s :: r) (h2 : (if !isSumSigns s then none else if a == "harness".toList then some (true, s) else if a == "ownmain".toList then some (false, s) else none) = v) : P.mainIs = v := by
  unfold Program.mainIs
  rw [h]
  exact h2
theorem mayEnterT : Tryd.prog.mayEnter = true := mayEnter_of ini_behind (by kernel_rfl) (by kernel_rfl) (by kernel_rfl) (by kernel_rfl) (by kernel_rfl)
theorem makeT : Tryd.prog.make = some .cut := make_of ini_behind (by kernel_rfl) (by kernel_rfl)
theorem liftsT : Tryd.prog.liftsFinal = false := lifts_of ini_behind (by kernel_rfl)
theorem mainT : Tryd.prog.mainIs = some (true, "cf5c0ded6a4db3ca16b0548351fdbd1ee7d7612a2bf8944ce22d5cde5a2fe944".toList) := main_of ini_words (by kernel_rfl)
end Go.Proofs.YtgjhbapbomdpbaaDoor.C
