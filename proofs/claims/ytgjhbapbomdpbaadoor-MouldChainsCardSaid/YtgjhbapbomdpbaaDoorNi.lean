/- MouldChains: rings of templates, looked at one by one. -/
import Derived.Test.YtgjhbapbomdpbaaDoorNh
set_option linter.unusedVariables false
set_option linter.unusedSimpArgs false
set_option maxRecDepth 100000
namespace Go.Proofs.YtgjhbapbomdpbaaDoor.C
open Go.RowKit Go.Proofs.YtgjhbapbomdpbaaDoor.Sh
theorem ch_rg14_0 : chRg 14 0 = true := by decide +kernel
theorem ch_rg14_1 : chRg 14 1 = true := by decide +kernel
theorem ch_rg14_2 : chRg 14 2 = true := by decide +kernel
theorem ch_rg14_3 : chRg 14 3 = true := by decide +kernel
theorem ch_rg14_4 : chRg 14 4 = true := by decide +kernel
theorem ch_rg14_5 : chRg 14 5 = true := by decide +kernel
theorem ch_rg14_6 : chRg 14 6 = true := by decide +kernel
theorem ch_rg14_7 : chRg 14 7 = true := by decide +kernel
theorem ch_rg14_8 : chRg 14 8 = true := by decide +kernel
theorem ch_rg14_9 : chRg 14 9 = true := by decide +kernel
theorem ch_rg14_10 : chRg 14 10 = true := by decide +kernel
theorem ch_rg14_11 : chRg 14 11 = true := by decide +kernel
theorem ch_rg14_12 : chRg 14 12 = true := by decide +kernel
theorem ch_rg14_13 : chRg 14 13 = true := by decide +kernel
theorem ch_rg14 (r : Nat) (h : r < 14) : chRg 14 (r : Int) = true := by
  match r, h with
  | 0, _ => exact ch_rg14_0
  | 1, _ => exact ch_rg14_1
  | 2, _ => exact ch_rg14_2
  | 3, _ => exact ch_rg14_3
  | 4, _ => exact ch_rg14_4
  | 5, _ => exact ch_rg14_5
  | 6, _ => exact ch_rg14_6
  | 7, _ => exact ch_rg14_7
  | 8, _ => exact ch_rg14_8
  | 9, _ => exact ch_rg14_9
  | 10, _ => exact ch_rg14_10
  | 11, _ => exact ch_rg14_11
  | 12, _ => exact ch_rg14_12
  | 13, _ => exact ch_rg14_13
  | n + 14, h => exact absurd h (by omega)
theorem ch_rg15_0 : chRg 15 0 = true := by decide +kernel
theorem ch_rg15_1 : chRg 15 1 = true := by decide +kernel
theorem ch_rg15_2 : chRg 15 2 = true := by decide +kernel
theorem ch_rg15_3 : chRg 15 3 = true := by decide +kernel
theorem ch_rg15_4 : chRg 15 4 = true := by decide +kernel
theorem ch_rg15_5 : chRg 15 5 = true := by decide +kernel
theorem ch_rg15_6 : chRg 15 6 = true := by decide +kernel
theorem ch_rg15_7 : chRg 15 7 = true := by decide +kernel
theorem ch_rg15_8 : chRg 15 8 = true := by decide +kernel
theorem ch_rg15_9 : chRg 15 9 = true := by decide +kernel
theorem ch_rg15_10 : chRg 15 10 = true := by decide +kernel
theorem ch_rg15_11 : chRg 15 11 = true := by decide +kernel
theorem ch_rg15_12 : chRg 15 12 = true := by decide +kernel
theorem ch_rg15_13 : chRg 15 13 = true := by decide +kernel
theorem ch_rg15_14 : chRg 15 14 = true := by decide +kernel
theorem ch_rg15 (r : Nat) (h : r < 15) : chRg 15 (r : Int) = true := by
  match r, h with
  | 0, _ => exact ch_rg15_0
  | 1, _ => exact ch_rg15_1
  | 2, _ => exact ch_rg15_2
  | 3, _ => exact ch_rg15_3
  | 4, _ => exact ch_rg15_4
  | 5, _ => exact ch_rg15_5
  | 6, _ => exact ch_rg15_6
  | 7, _ => exact ch_rg15_7
  | 8, _ => exact ch_rg15_8
  | 9, _ => exact ch_rg15_9
  | 10, _ => exact ch_rg15_10
  | 11, _ => exact ch_rg15_11
  | 12, _ => exact ch_rg15_12
  | 13, _ => exact ch_rg15_13
  | 14, _ => exact ch_rg15_14
  | n + 15, h => exact absurd h (by omega)
end Go.Proofs.YtgjhbapbomdpbaaDoor.C
