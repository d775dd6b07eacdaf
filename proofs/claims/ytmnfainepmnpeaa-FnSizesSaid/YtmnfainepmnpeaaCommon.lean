/- Walks that many topics share. -/
import Derived.Test.YtmnfainepmnpeaaRows
import Derived.Test.YtmnfainepmnpeaaBase
namespace Go.Proofs.Ytmnfainepmnpeaa
open Go.RowKit

theorem within_any (n lo hi : Int) (w : World) :
    Calls Try.prog 55 #[.int .i64 n, .int .i64 lo, .int .i64 hi] w fun e w' => e = .returned (.bool (inB n lo hi)) ∧ w = w' := by
  unfold inB
  go_enter Try.func55, Try.ntmps55
  go_wp2
  all_goals go_ret
  · exact ⟨by simp [*], rfl⟩
  · exact ⟨by simp; intro h; omega, rfl⟩
theorem l01In_any (n lo hi : Int) (w : World) :
    Calls Try.prog 53 #[.int .i64 n, .int .i64 lo, .int .i64 hi] w fun e w' => e = .returned (.bool (inB n lo hi)) ∧ w = w' := by
  unfold inB
  go_enter Try.func53, Try.ntmps53
  go_wp2
  all_goals go_ret
  · exact ⟨by simp [*], rfl⟩
  · exact ⟨by simp; intro h; omega, rfl⟩
end Go.Proofs.Ytmnfainepmnpeaa
