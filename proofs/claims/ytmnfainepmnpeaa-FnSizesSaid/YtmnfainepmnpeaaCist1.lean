/- The walks over single cisterns. -/
import Derived.Test.YtmnfainepmnpeaaCommon
namespace Go.Proofs.Ytmnfainepmnpeaa
open Go.RowKit

def cistB (r l : Int) : Bool := inB r 1 1000000 && inB l 0 r
theorem cistB_true {r l : Int} (h : cistB r l = true) : (1 ≤ r ∧ r ≤ 1000000) ∧ 0 ≤ l ∧ l ≤ r := by
  simp only [cistB, Bool.and_eq_true] at h
  exact ⟨inB_true h.1, inB_true h.2⟩
theorem cisternOk_any (r l : Int) (w : World) :
    Calls Try.prog 84 #[.agg #[.int .i64 r, .int .i64 l]] w fun e w' => e = .returned (.bool (cistB r l)) ∧ Gr w w' none := by
  unfold cistB
  go_enter Try.func84, Try.ntmps84
  go_wp2_with (go_at_call 55; refine (within_any _ _ _ _).mono ?_; rintro e w' ⟨rfl, rfl⟩)
  all_goals go_ret
  · exact ⟨by simp [*], gr_alloc (gr_refl _ _) _⟩
  · exact ⟨by simp [*], gr_alloc (gr_refl _ _) _⟩
theorem sCisternOk_any (r l : Int) (w : World) :
    Calls Try.prog 82 #[.agg #[.int .i64 r, .int .i64 l]] w fun e w' => e = .returned (.bool (cistB r l)) ∧ Gr w w' none := by
  unfold cistB
  go_enter Try.func82, Try.ntmps82
  go_wp2_with (go_at_call 53; refine (l01In_any _ _ _ _).mono ?_; rintro e w' ⟨rfl, rfl⟩)
  all_goals go_ret
  · exact ⟨by simp [*], gr_alloc (gr_refl _ _) _⟩
  · exact ⟨by simp [*], gr_alloc (gr_refl _ _) _⟩
end Go.Proofs.Ytmnfainepmnpeaa
