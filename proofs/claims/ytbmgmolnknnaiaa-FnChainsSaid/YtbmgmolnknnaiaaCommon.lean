/- Walks that many topics share. -/
import Derived.Test.YtbmgmolnknnaiaaRows
import Derived.Test.YtbmgmolnknnaiaaBase
namespace Go.Proofs.Ytbmgmolnknnaiaa
open Go.RowKit

theorem within_any (n lo hi : Int) (w : World) :
    Calls Try.prog 29 #[.int .i64 n, .int .i64 lo, .int .i64 hi] w fun e w' => e = .returned (.bool (inB n lo hi)) ∧ w = w' := by
  unfold inB
  go_enter Try.func29, Try.ntmps29
  go_wp2
  all_goals go_ret
  · exact ⟨by simp [*], rfl⟩
  · exact ⟨by simp; intro h; omega, rfl⟩
theorem l01In_any (n lo hi : Int) (w : World) :
    Calls Try.prog 36 #[.int .i64 n, .int .i64 lo, .int .i64 hi] w fun e w' => e = .returned (.bool (inB n lo hi)) ∧ w = w' := by
  unfold inB
  go_enter Try.func36, Try.ntmps36
  go_wp2
  all_goals go_ret
  · exact ⟨by simp [*], rfl⟩
  · exact ⟨by simp; intro h; omega, rfl⟩
end Go.Proofs.Ytbmgmolnknnaiaa
