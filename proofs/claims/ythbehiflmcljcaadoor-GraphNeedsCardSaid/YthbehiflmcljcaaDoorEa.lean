/- The program's head, word by word, and the closed facts that hang on it: each apart, so that none wants much memory. (Printed by tools/ini.py.) -/
import Derived.Test.YthbehiflmcljcaaDoorE1
set_option linter.unusedVariables false
set_option linter.unusedSimpArgs false
set_option maxRecDepth 100000
namespace Go.Proofs.YthbehiflmcljcaaDoor.C
open Go.ChangeShapes Go.WideShapes Go.ChangeAt Go.RowKit Go.Proofs.YthbehiflmcljcaaDoor.Sh
def iniCs : List Char := ['h', 'a', 'r', 'n', 'e', 's', 's', ' ', '5', 'a', 'f', 'b', 'd', '2', 'f', '4', 'e', '0', 'd', '4', '5', '8', '6', 'd', 'd', 'b', '3', 'a', 'b', '8', '9', '5', '3', '9', 'a', '3', '1', 'f', 'd', 'd', 'f', '2', '4', 'e', 'f', '4', '3', '1', '0', '4', '1', '4', '4', '2', 'd', 'a', 'c', '8', 'd', '8', '1', '1', '8', 'f', 'd', 'b', '1', '8', '8', '4', 'c', 'f', ' ', 'c', 'u', 't', ' ', 'a', 't', ' ', 's', 'h', 'u', 't', 't', 'l', 'e', '/', 's', 'h', 'u', 't', 't', 'l', 'e', 'l', 'a', 'w', '1', '6', '.', 'G', 'r', 'a', 'p', 'h', 'O', 'r', 'd', 'e', 'r', 's', ' ', 's', 'h', 'u', 't', 't', 'l', 'e', '/', 's', 'h', 'u', 't', 't', 'l', 'e', 'l', 'a', 'w', '1', '6', '.', 'G', 'r', 'a', 'p', 'h', 'S', 'o', 'r', 't', 'e', 'd', ' ', 's', 'h', 'u', 't', 't', 'l', 'e', '/', 's', 'h', 'u', 't', 't', 'l', 'e', 'l', 'a', 'w', '1', '6', '.', 'G', 'r', 'a', 'p', 'h', 'L', 'e', 'a', 's', 't', ' ', 's', 'h', 'u', 't', 't', 'l', 'e', '/', 's', 'h', 'u', 't', 't', 'l', 'e', 'l', 'a', 'w', '1', '6', '.', 'G', 'r', 'a', 'p', 'h', 'C', 'y', 'c', 'l', 'e', 's', ' ', 's', 'h', 'u', 't', 't', 'l', 'e', '/', 's', 'h', 'u', 't', 't', 'l', 'e', 'l', 'a', 'w', '1', '6', '.', 'G', 'r', 'a', 'p', 'h', 'S', 't', 'a', 'g', 'e', 's', ' ', 's', 'h', 'u', 't', 't', 'l', 'e', '/', 's', 'h', 'u', 't', 't', 'l', 'e', 'l', 'a', 'w', '1', '6', '.', 'G', 'r', 'a', 'p', 'h', 'N', 'e', 'e', 'd', 's', ' ', 's', 'h', 'u', 't', 't', 'l', 'e', '/', 's', 'h', 'u', 't', 't', 'l', 'e', 'l', 'a', 'w', '1', '6', '.', 'G', 'r', 'a', 'p', 'h', 'M', 'o', 'r', 'e']
def iniWs : List (List Char) := [['h', 'a', 'r', 'n', 'e', 's', 's'], ['5', 'a', 'f', 'b', 'd', '2', 'f', '4', 'e', '0', 'd', '4', '5', '8', '6', 'd', 'd', 'b', '3', 'a', 'b', '8', '9', '5', '3', '9', 'a', '3', '1', 'f', 'd', 'd', 'f', '2', '4', 'e', 'f', '4', '3', '1', '0', '4', '1', '4', '4', '2', 'd', 'a', 'c', '8', 'd', '8', '1', '1', '8', 'f', 'd', 'b', '1', '8', '8', '4', 'c', 'f'], ['c', 'u', 't'], ['a', 't'], ['s', 'h', 'u', 't', 't', 'l', 'e', '/', 's', 'h', 'u', 't', 't', 'l', 'e', 'l', 'a', 'w', '1', '6', '.', 'G', 'r', 'a', 'p', 'h', 'O', 'r', 'd', 'e', 'r', 's'], ['s', 'h', 'u', 't', 't', 'l', 'e', '/', 's', 'h', 'u', 't', 't', 'l', 'e', 'l', 'a', 'w', '1', '6', '.', 'G', 'r', 'a', 'p', 'h', 'S', 'o', 'r', 't', 'e', 'd'], ['s', 'h', 'u', 't', 't', 'l', 'e', '/', 's', 'h', 'u', 't', 't', 'l', 'e', 'l', 'a', 'w', '1', '6', '.', 'G', 'r', 'a', 'p', 'h', 'L', 'e', 'a', 's', 't'], ['s', 'h', 'u', 't', 't', 'l', 'e', '/', 's', 'h', 'u', 't', 't', 'l', 'e', 'l', 'a', 'w', '1', '6', '.', 'G', 'r', 'a', 'p', 'h', 'C', 'y', 'c', 'l', 'e', 's'], ['s', 'h', 'u', 't', 't', 'l', 'e', '/', 's', 'h', 'u', 't', 't', 'l', 'e', 'l', 'a', 'w', '1', '6', '.', 'G', 'r', 'a', 'p', 'h', 'S', 't', 'a', 'g', 'e', 's'], ['s', 'h', 'u', 't', 't', 'l', 'e', '/', 's', 'h', 'u', 't', 't', 'l', 'e', 'l', 'a', 'w', '1', '6', '.', 'G', 'r', 'a', 'p', 'h', 'N', 'e', 'e', 'd', 's'], ['s', 'h', 'u', 't', 't', 'l', 'e', '/', 's', 'h', 'u', 't', 't', 'l', 'e', 'l', 'a', 'w', '1', '6', '.', 'G', 'r', 'a', 'p', 'h', 'M', 'o', 'r', 'e']]
theorem ini_eq : Tryd.prog.initOrder = String.ofList iniCs := by kernel_rfl
theorem ini_words : wordsSigns Tryd.prog.initOrder.toList = iniWs := by rw [ini_eq, String.toList_ofList]; kernel_rfl
theorem ini_behind : behindMainWord (wordsSigns Tryd.prog.initOrder.toList) = iniWs.drop 2 := by rw [ini_words]; kernel_rfl
theorem mayEnter_of {P : Program} {c : List Char} {rest : List (List Char)} (h : behindMainWord (wordsSigns P.initOrder.toList) = c :: rest)
    (h1 : (stripLifts liftWords (c :: rest)) = ([], c :: rest)) (h2 : (c :: rest).head? == some "cut".toList) (h3 : P.laysLater = false) (h4 : P.bearsReflect = false) (h5 : P.doorFits [] = true) : P.mayEnter = true := by
  unfold Program.mayEnter
  rw [h]
  simp only [h1, h3, h4, h5]
  rw [h2]
  simp
theorem make_of {P : Program} {c : List Char} {rest : List (List Char)} (h : behindMainWord (wordsSigns P.initOrder.toList) = c :: rest) (h1 : (c == "gc".toList || c == "spec".toList) = false) (h2 : (c == "cut".toList) = true) : P.make = some .cut := by
  unfold Program.make
  rw [h]
  simp only [h1, h2]
  rfl
theorem lifts_of {P : Program} {ws : List (List Char)} {b : Bool} (h : behindMainWord (wordsSigns P.initOrder.toList) = ws) (h2 : ((ws.head? == some "carried".toList && ws.take 3 != ["carried".toList, "gc".toList, "cut".toList]) || (if (stripLifts liftWords ws).2.head? == some "cut".toList then (stripLifts liftWords ws).1 else []).contains "finals") = b) : P.liftsFinal = b := by
  unfold Program.liftsFinal Program.headLifts
  rw [h]
  exact h2
theorem main_of {P : Program} {a s : List Char} {r : List (List Char)} {v : Option (Bool × List Char)} (h : wordsSigns P.initOrder.toList = a :: s :: r) (h2 : (if !isSumSigns s then none else if a == "harness".toList then some (true, s) else if a == "ownmain".toList then some (false, s) else none) = v) : P.mainIs = v := by
  unfold Program.mainIs
  rw [h]
  exact h2
theorem mayEnterT : Tryd.prog.mayEnter = true := mayEnter_of ini_behind (by kernel_rfl) (by kernel_rfl) (by kernel_rfl) (by kernel_rfl) (by kernel_rfl)
theorem makeT : Tryd.prog.make = some .cut := make_of ini_behind (by kernel_rfl) (by kernel_rfl)
theorem liftsT : Tryd.prog.liftsFinal = false := lifts_of ini_behind (by kernel_rfl)
theorem mainT : Tryd.prog.mainIs = some (true, "5afbd2f4e0d4586ddb3ab89539a31fddf24ef431041442dac8d8118fdb1884cf".toList) := main_of ini_words (by kernel_rfl)
end Go.Proofs.YthbehiflmcljcaaDoor.C
