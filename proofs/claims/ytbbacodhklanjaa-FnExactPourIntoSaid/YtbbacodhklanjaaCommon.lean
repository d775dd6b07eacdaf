/- Walks that many topics share. -/
import Derived.Test.YtbbacodhklanjaaRows
import Derived.Test.YtbbacodhklanjaaBase
namespace Go.Proofs.Ytbbacodhklanjaa
open Go.RowKit

theorem within_any (n lo hi : Int) (w : World) :
    Calls Try.prog 59 #[.int .i64 n, .int .i64 lo, .int .i64 hi] w fun e w' => e = .returned (.bool (inB n lo hi)) ∧ w = w' := by
  unfold inB
  go_enter Try.func59, Try.ntmps59
  go_wp2
  all_goals go_ret
  · exact ⟨by simp [*], rfl⟩
  · exact ⟨by simp; intro h; omega, rfl⟩
theorem l01In_any (n lo hi : Int) (w : World) :
    Calls Try.prog 58 #[.int .i64 n, .int .i64 lo, .int .i64 hi] w fun e w' => e = .returned (.bool (inB n lo hi)) ∧ w = w' := by
  unfold inB
  go_enter Try.func58, Try.ntmps58
  go_wp2
  all_goals go_ret
  · exact ⟨by simp [*], rfl⟩
  · exact ⟨by simp; intro h; omega, rfl⟩
end Go.Proofs.Ytbbacodhklanjaa
