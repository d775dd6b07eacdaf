/- Walks that many topics share. -/
import Derived.Test.YtbkpphcmdjllnaaRows
import Derived.Test.YtbkpphcmdjllnaaBase
namespace Go.Proofs.Ytbkpphcmdjllnaa
open Go.RowKit

theorem within_any (n lo hi : Int) (w : World) :
    Calls Try.prog 23 #[.int .i64 n, .int .i64 lo, .int .i64 hi] w fun e w' => e = .returned (.bool (inB n lo hi)) ∧ w = w' := by
  unfold inB
  go_enter Try.func23, Try.ntmps23
  go_wp2
  all_goals go_ret
  · exact ⟨by simp [*], rfl⟩
  · exact ⟨by simp; intro h; omega, rfl⟩
theorem l01In_any (n lo hi : Int) (w : World) :
    Calls Try.prog 21 #[.int .i64 n, .int .i64 lo, .int .i64 hi] w fun e w' => e = .returned (.bool (inB n lo hi)) ∧ w = w' := by
  unfold inB
  go_enter Try.func21, Try.ntmps21
  go_wp2
  all_goals go_ret
  · exact ⟨by simp [*], rfl⟩
  · exact ⟨by simp; intro h; omega, rfl⟩
end Go.Proofs.Ytbkpphcmdjllnaa
