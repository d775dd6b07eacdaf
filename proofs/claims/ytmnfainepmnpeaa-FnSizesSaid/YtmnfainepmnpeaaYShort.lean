/- The lists of a year are short. -/
import Derived.Test.YtmnfainepmnpeaaYSpec3
namespace Go.Proofs.Ytmnfainepmnpeaa
open Go.RowKit

theorem levels_short (r s n : Int) (xs : List Int) : (levelsV r s n xs).length ≤ 1048576 := by
  cases hy : yearB r s xs n
  · simp [levelsV, hy]
  · have := (yearB_parts hy).2.2.1
    rw [show levelsV r s n xs = levelsTo r s n xs xs.length from by simp [levelsV, hy], levelsTo, daysTo_length]; omega
theorem short_short (r s n : Int) (xs : List Int) : (shortV r s n xs).length ≤ 1048576 := by
  cases hy : yearB r s xs n
  · simp [shortV, hy]
  · have h1 := (yearB_parts hy).2.2.1
    have h2 : (shortTo r s n xs xs.length).length ≤ xs.length := whereTo_length _ _
    rw [show shortV r s n xs = shortTo r s n xs xs.length from by simp [shortV, hy]]; omega
end Go.Proofs.Ytmnfainepmnpeaa
