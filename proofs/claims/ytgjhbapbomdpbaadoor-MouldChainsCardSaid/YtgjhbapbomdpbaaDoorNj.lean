/- MouldChains: rings of templates, looked at one by one. -/
import Derived.Test.YtgjhbapbomdpbaaDoorNh
set_option linter.unusedVariables false
set_option linter.unusedSimpArgs false
set_option maxRecDepth 100000
namespace Go.Proofs.YtgjhbapbomdpbaaDoor.C
open Go.RowKit Go.Proofs.YtgjhbapbomdpbaaDoor.Sh
theorem ch_rg16_0 : chRg 16 0 = true := by decide +kernel
theorem ch_rg16_1 : chRg 16 1 = true := by decide +kernel
theorem ch_rg16_2 : chRg 16 2 = true := by decide +kernel
theorem ch_rg16_3 : chRg 16 3 = true := by decide +kernel
theorem ch_rg16_4 : chRg 16 4 = true := by decide +kernel
theorem ch_rg16_5 : chRg 16 5 = true := by decide +kernel
theorem ch_rg16_6 : chRg 16 6 = true := by decide +kernel
theorem ch_rg16_7 : chRg 16 7 = true := by decide +kernel
theorem ch_rg16_8 : chRg 16 8 = true := by decide +kernel
theorem ch_rg16_9 : chRg 16 9 = true := by decide +kernel
theorem ch_rg16_10 : chRg 16 10 = true := by decide +kernel
theorem ch_rg16_11 : chRg 16 11 = true := by decide +kernel
theorem ch_rg16_12 : chRg 16 12 = true := by decide +kernel
theorem ch_rg16_13 : chRg 16 13 = true := by decide +kernel
theorem ch_rg16_14 : chRg 16 14 = true := by decide +kernel
theorem ch_rg16_15 : chRg 16 15 = true := by decide +kernel
theorem ch_rg16 (r : Nat) (h : r < 16) : chRg 16 (r : Int) = true := by
  match r, h with
  | 0, _ => exact ch_rg16_0
  | 1, _ => exact ch_rg16_1
  | 2, _ => exact ch_rg16_2
  | 3, _ => exact ch_rg16_3
  | 4, _ => exact ch_rg16_4
  | 5, _ => exact ch_rg16_5
  | 6, _ => exact ch_rg16_6
  | 7, _ => exact ch_rg16_7
  | 8, _ => exact ch_rg16_8
  | 9, _ => exact ch_rg16_9
  | 10, _ => exact ch_rg16_10
  | 11, _ => exact ch_rg16_11
  | 12, _ => exact ch_rg16_12
  | 13, _ => exact ch_rg16_13
  | 14, _ => exact ch_rg16_14
  | 15, _ => exact ch_rg16_15
  | n + 16, h => exact absurd h (by omega)
theorem ch_rg17_0 : chRg 17 0 = true := by decide +kernel
theorem ch_rg17_1 : chRg 17 1 = true := by decide +kernel
theorem ch_rg17_2 : chRg 17 2 = true := by decide +kernel
theorem ch_rg17_3 : chRg 17 3 = true := by decide +kernel
theorem ch_rg17_4 : chRg 17 4 = true := by decide +kernel
theorem ch_rg17_5 : chRg 17 5 = true := by decide +kernel
theorem ch_rg17_6 : chRg 17 6 = true := by decide +kernel
theorem ch_rg17_7 : chRg 17 7 = true := by decide +kernel
theorem ch_rg17_8 : chRg 17 8 = true := by decide +kernel
theorem ch_rg17_9 : chRg 17 9 = true := by decide +kernel
theorem ch_rg17_10 : chRg 17 10 = true := by decide +kernel
theorem ch_rg17_11 : chRg 17 11 = true := by decide +kernel
theorem ch_rg17_12 : chRg 17 12 = true := by decide +kernel
theorem ch_rg17_13 : chRg 17 13 = true := by decide +kernel
theorem ch_rg17_14 : chRg 17 14 = true := by decide +kernel
theorem ch_rg17_15 : chRg 17 15 = true := by decide +kernel
theorem ch_rg17_16 : chRg 17 16 = true := by decide +kernel
theorem ch_rg17 (r : Nat) (h : r < 17) : chRg 17 (r : Int) = true := by
  match r, h with
  | 0, _ => exact ch_rg17_0
  | 1, _ => exact ch_rg17_1
  | 2, _ => exact ch_rg17_2
  | 3, _ => exact ch_rg17_3
  | 4, _ => exact ch_rg17_4
  | 5, _ => exact ch_rg17_5
  | 6, _ => exact ch_rg17_6
  | 7, _ => exact ch_rg17_7
  | 8, _ => exact ch_rg17_8
  | 9, _ => exact ch_rg17_9
  | 10, _ => exact ch_rg17_10
  | 11, _ => exact ch_rg17_11
  | 12, _ => exact ch_rg17_12
  | 13, _ => exact ch_rg17_13
  | 14, _ => exact ch_rg17_14
  | 15, _ => exact ch_rg17_15
  | 16, _ => exact ch_rg17_16
  | n + 17, h => exact absurd h (by omega)
end Go.Proofs.YtgjhbapbomdpbaaDoor.C
