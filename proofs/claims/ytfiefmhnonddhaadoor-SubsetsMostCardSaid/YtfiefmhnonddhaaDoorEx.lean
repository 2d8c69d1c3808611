/-
  PLAIN: the chapter's example.
-/
import Derived.Test.YtfiefmhnonddhaaDoorPartsA
namespace Go.Proofs.YtfiefmhnonddhaaDoor
theorem ex_given : givenE [3, -1] = 0 ∧ givenE [5, -2, -3, 4, -4] = 0 := by decide +kernel
theorem ex_sums : sumsX [3, -1] = [-1, 0, 2, 3] := by
  unfold sumsX
  rw [if_pos ex_given.1, sumsP_ref]
  decide +kernel
theorem ex_zero : findX [5, -2, -3, 4, -4] 0 1 = [3, 4] ∧ findE [5, -2, -3, 4, -4] 0 1 = 0 := by decide +kernel
theorem ex_parts : partsX [5, -2, -3, 4, -4] = [[0, 1, 2], [3, 4]] ∧ partsE [5, -2, -3, 4, -4] = 0 := by decide +kernel
end Go.Proofs.YtfiefmhnonddhaaDoor
