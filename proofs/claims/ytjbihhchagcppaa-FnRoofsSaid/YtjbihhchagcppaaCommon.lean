/- Walks that many topics share. -/
import Derived.Test.YtjbihhchagcppaaRows
import Derived.Test.YtjbihhchagcppaaBase
namespace Go.Proofs.Ytjbihhchagcppaa
open Go.RowKit

theorem within_any (n lo hi : Int) (w : World) :
    Calls Try.prog 19 #[.int .i64 n, .int .i64 lo, .int .i64 hi] w fun e w' => e = .returned (.bool (inB n lo hi)) ∧ w = w' := by
  unfold inB
  go_enter Try.func19, Try.ntmps19
  go_wp2
  all_goals go_ret
  · exact ⟨by simp [*], rfl⟩
  · exact ⟨by simp; intro h; omega, rfl⟩
end Go.Proofs.Ytjbihhchagcppaa
