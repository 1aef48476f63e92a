/- The program's head, word by word, and the closed facts that hang on it: each apart, so that none wants much memory. (Printed by tools/ini.py.) -/
import Derived.Test.YtgjhbapbomdpbaaGreatDoorE1
set_option linter.unusedVariables false
set_option linter.unusedSimpArgs false
set_option maxRecDepth 100000
namespace Go.Proofs.YtgjhbapbomdpbaaGreatDoor.C
open Go.ChangeShapes Go.WideShapes Go.ChangeAt Go.RowKit Go.Proofs.YtgjhbapbomdpbaaGreatDoor.Sh
def iniCs : List Char := ['h', 'a', 'r', 'n', 'e', 's', 's', ' ', '3', '1', 'e', '1', '1', 'a', '2', '7', '4', '7', '7', '7', '0', '6', 'd', '1', 'b', 'f', 'c', '5', '3', '1', 'c', 'b', '9', 'c', 'f', '2', '6', '2', 'e', '8', '7', '7', 'f', 'f', 'a', '1', '4', '6', '5', '5', '9', '7', '9', '6', 'e', '5', 'f', 'e', '2', 'a', '3', '3', 'a', 'a', '6', '4', '9', 'c', 'c', '0', '4', '6', ' ', 'c', 'u', 't', ' ', 'a', 't', ' ', 's', 'h', 'u', 't', 't', 'l', 'e', '/', 's', 'h', 'u', 't', 't', 'l', 'e', 'l', 'a', 'w', '7', '.', 'I', 'n', 'c', 'l', 'u', 'd', 'e', 'L', 'o', 'a', 'd', 's', ' ', 's', 'h', 'u', 't', 't', 'l', 'e', '/', 's', 'h', 'u', 't', 't', 'l', 'e', 'l', 'a', 'w', '7', '.', 'I', 'n', 'c', 'l', 'u', 'd', 'e', 'C', 'y', 'c', 'l', 'e', 's', ' ', 's', 'h', 'u', 't', 't', 'l', 'e', '/', 's', 'h', 'u', 't', 't', 'l', 'e', 'l', 'a', 'w', '9', '.', 'M', 'o', 'u', 'l', 'd', 'J', 'o', 'b', 's']
def iniWs : List (List Char) := [['h', 'a', 'r', 'n', 'e', 's', 's'], ['3', '1', 'e', '1', '1', 'a', '2', '7', '4', '7', '7', '7', '0', '6', 'd', '1', 'b', 'f', 'c', '5', '3', '1', 'c', 'b', '9', 'c', 'f', '2', '6', '2', 'e', '8', '7', '7', 'f', 'f', 'a', '1', '4', '6', '5', '5', '9', '7', '9', '6', 'e', '5', 'f', 'e', '2', 'a', '3', '3', 'a', 'a', '6', '4', '9', 'c', 'c', '0', '4', '6'], ['c', 'u', 't'], ['a', 't'], ['s', 'h', 'u', 't', 't', 'l', 'e', '/', 's', 'h', 'u', 't', 't', 'l', 'e', 'l', 'a', 'w', '7', '.', 'I', 'n', 'c', 'l', 'u', 'd', 'e', 'L', 'o', 'a', 'd', 's'], ['s', 'h', 'u', 't', 't', 'l', 'e', '/', 's', 'h', 'u', 't', 't', 'l', 'e', 'l', 'a', 'w', '7', '.', 'I', 'n', 'c', 'l', 'u', 'd', 'e', 'C', 'y', 'c', 'l', 'e', 's'], ['s', 'h', 'u', 't', 't', 'l', 'e', '/', 's', 'h', 'u', 't', 't', 'l', 'e', 'l', 'a', 'w', '9', '.', 'M', 'o', 'u', 'l', 'd', 'J', 'o', 'b', 's']]
theorem ini_eq : Tryz.prog.initOrder = String.ofList iniCs := by kernel_rfl
theorem ini_words : wordsSigns Tryz.prog.initOrder.toList = iniWs := by rw [ini_eq, String.toList_ofList]; kernel_rfl
theorem ini_behind : behindMainWord (wordsSigns Tryz.prog.initOrder.toList) = iniWs.drop 2 := by rw [ini_words]; kernel_rfl
theorem mayEnter_of {P : Program} {c : List Char} {rest : List (List Char)} (h : behindMainWord (wordsSigns P.initOrder.toList) = c :: rest)
    (h1 : (stripLifts liftWords (c :: rest)) = ([], c :: rest)) (h2 : (c :: rest).head? == some "cut".toList) (h3 : P.laysLater = false) (h4 : P.bearsReflect = false) (h5 : P.doorFits [] = true) : P.mayEnter = true := by
  unfold Program.mayEnter
  rw [h]
  simp only [h1, h3, h4, h5]
  rw [h2]
  simp
theorem make_of {P : Program} {c : List Char} {rest : List (List Char)} (h : behindMainWord (wordsSigns P.initOrder.toList) = c :: rest) (h1 : (c == "gc".toList || c == "spec".toList) = false) (h2 : (c == "cut".toList) = true) : P.make = some .cut := by
  unfold Program.make
  rw [h]
  simp only [h1, h2]
  rfl
theorem lifts_of {P : Program} {ws : List (List Char)} {b : Bool} (h : behindMainWord (wordsSigns P.initOrder.toList) = ws) (h2 : ((ws.head? == some "carried".toList && ws.take 3 != ["carried".toList, "gc".toList, "cut".toList]) || (if (stripLifts liftWords ws).2.head? == some "cut".toList then (stripLifts liftWords ws).1 else []).contains "finals") = b) : P.liftsFinal = b := by
  unfold Program.liftsFinal Program.headLifts
  rw [h]
  exact h2
theorem main_of {P : Program} {a s : List Char} {r : List (List Char)} {v : Option (Bool × List Char)} (h : wordsSigns P.initOrder.toList = a :: s :: r) (h2 : (if !isSumSigns s then none else if a == "harness".toList then some (true, s) else if a == "ownmain".toList then some (false, s) else none) = v) : P.mainIs = v := by
  unfold Program.mainIs
  rw [h]
  exact h2
theorem mayEnterT : Tryz.prog.mayEnter = true := mayEnter_of ini_behind (by kernel_rfl) (by kernel_rfl) (by kernel_rfl) (by kernel_rfl) (by kernel_rfl)
theorem makeT : Tryz.prog.make = some .cut := make_of ini_behind (by kernel_rfl) (by kernel_rfl)
theorem liftsT : Tryz.prog.liftsFinal = false := lifts_of ini_behind (by kernel_rfl)
theorem mainT : Tryz.prog.mainIs = some (true, "31e11a27477706d1bfc531cb9cf262e877ffa146559796e5fe2a33aa649cc046".toList) := main_of ini_words (by kernel_rfl)
end Go.Proofs.YtgjhbapbomdpbaaGreatDoor.C
