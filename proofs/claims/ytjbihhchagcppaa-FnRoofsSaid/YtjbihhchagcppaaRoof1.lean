/- The walks over roofs: functions of numbers and of two-number structs. -/
import Derived.Test.YtjbihhchagcppaaRows
import Derived.Test.YtjbihhchagcppaaCommon
namespace Go.Proofs.Ytjbihhchagcppaa
open Go.RowKit

def roofB (a p : Int) : Bool := inB a 1 1000 && inB p 0 100
theorem roofB_true {a p : Int} (h : roofB a p = true) : (1 ≤ a ∧ a ≤ 1000) ∧ 0 ≤ p ∧ p ≤ 100 := by
  simp only [roofB, Bool.and_eq_true] at h
  exact ⟨inB_true h.1, inB_true h.2⟩
theorem roofOk_any (a p : Int) (w : World) :
    Calls Try.prog 15 #[.agg #[.int .i64 a, .int .i64 p]] w fun e w' => e = .returned (.bool (roofB a p)) ∧ Gr w w' none := by
  unfold roofB
  go_enter Try.func15, Try.ntmps15
  go_wp2_with (go_at_call 19; refine (within_any _ _ _ _).mono ?_; rintro e w' ⟨rfl, rfl⟩)
  all_goals go_ret
  · exact ⟨by simp [*], gr_alloc (gr_refl _ _) _⟩
  · exact ⟨by simp [*], gr_alloc (gr_refl _ _) _⟩
/-- The water that a roof catches, -1 where an argument is out of range. -/
def catchV (a p r : Int) : Int := if roofB a p && inB r 0 300 then a * r * p / 100 else -1
theorem mul_bd {a r A R : Int} (h0 : 0 ≤ a) (h1 : a ≤ A) (h2 : 0 ≤ r) (h3 : r ≤ R) : 0 ≤ a * r ∧ a * r ≤ A * R :=
  ⟨Int.mul_nonneg h0 h2, Int.mul_le_mul h1 h3 h2 (Int.le_trans h0 h1)⟩
theorem catch_bd {a p r : Int} (h : roofB a p = true) (hr : inB r 0 300 = true) : (0 ≤ a * r ∧ a * r ≤ 300000) ∧ (0 ≤ a * r * p ∧ a * r * p ≤ 30000000) := by
  obtain ⟨⟨h1, h2⟩, h3, h4⟩ := roofB_true h
  obtain ⟨h5, h6⟩ := inB_true hr
  have k := mul_bd (by omega : 0 ≤ a) h2 h5 h6
  exact ⟨by omega, mul_bd (A := 300000) (R := 100) k.1 (by omega) h3 h4⟩
theorem catch_any (a p r : Int) (w : World) :
    Calls Try.prog 9 #[.agg #[.int .i64 a, .int .i64 p], .int .i64 r] w fun e w' => e = .returned (.int .i64 (catchV a p r)) ∧ Gr w w' none := by
  unfold catchV
  cases hb : roofB a p <;> cases hr : inB r 0 300
  case true.true =>
    obtain ⟨⟨h1, h2⟩, h3, h4⟩ := catch_bd hb hr
    go_enter Try.func9, Try.ntmps9
    go_wp2_with (first | (go_at_call 15; refine (roofOk_any _ _ _).mono ?_; rintro e w' ⟨rfl, hg⟩; have hc := gr_cell hg) | (go_at_call 19; refine (within_any _ _ _ _).mono ?_; rintro e w' ⟨rfl, rfl⟩))
    go_ret
    exact ⟨rfl, (by repeat (first | (with_reducible exact gr_refl _ _) | (with_reducible assumption) | (with_reducible refine gr_drew ?_) | (with_reducible refine gr_drewN ?_ _) | (with_reducible refine gr_alloc ?_ _) | (with_reducible refine gr_set ?_ (.inr (by simp; done)) _) | (with_reducible refine gr_set ?_ (.inr (by simp; omega)) _) | (with_reducible refine gr_then ?_ (by with_reducible assumption))))⟩
  all_goals
    go_enter Try.func9, Try.ntmps9
    go_wp2_with (first | (go_at_call 15; refine (roofOk_any _ _ _).mono ?_; rintro e w' ⟨rfl, hg⟩) | (go_at_call 19; refine (within_any _ _ _ _).mono ?_; rintro e w' ⟨rfl, rfl⟩))
    go_ret
    exact ⟨rfl, (by repeat (first | (with_reducible exact gr_refl _ _) | (with_reducible assumption) | (with_reducible refine gr_drew ?_) | (with_reducible refine gr_drewN ?_ _) | (with_reducible refine gr_alloc ?_ _) | (with_reducible refine gr_set ?_ (.inr (by simp; done)) _) | (with_reducible refine gr_set ?_ (.inr (by simp; omega)) _) | (with_reducible refine gr_then ?_ (by with_reducible assumption))))⟩
end Go.Proofs.Ytjbihhchagcppaa
