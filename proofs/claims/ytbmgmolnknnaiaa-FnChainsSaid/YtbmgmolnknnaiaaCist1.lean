/- The walks over single cisterns. -/
import Derived.Test.YtbmgmolnknnaiaaCommon
namespace Go.Proofs.Ytbmgmolnknnaiaa
open Go.RowKit

def cistB (r l : Int) : Bool := inB r 1 1000000 && inB l 0 r
theorem cistB_true {r l : Int} (h : cistB r l = true) : (1 ≤ r ∧ r ≤ 1000000) ∧ 0 ≤ l ∧ l ≤ r := by
  simp only [cistB, Bool.and_eq_true] at h
  exact ⟨inB_true h.1, inB_true h.2⟩
theorem cisternOk_any (r l : Int) (w : World) :
    Calls Try.prog 16 #[.agg #[.int .i64 r, .int .i64 l]] w fun e w' => e = .returned (.bool (cistB r l)) ∧ Gr w w' none := by
  unfold cistB
  go_enter Try.func16, Try.ntmps16
  go_wp2_with (go_at_call 29; refine (within_any _ _ _ _).mono ?_; rintro e w' ⟨rfl, rfl⟩)
  all_goals go_ret
  · exact ⟨by simp [*], gr_alloc (gr_refl _ _) _⟩
  · exact ⟨by simp [*], gr_alloc (gr_refl _ _) _⟩
theorem sCisternOk_any (r l : Int) (w : World) :
    Calls Try.prog 27 #[.agg #[.int .i64 r, .int .i64 l]] w fun e w' => e = .returned (.bool (cistB r l)) ∧ Gr w w' none := by
  unfold cistB
  go_enter Try.func27, Try.ntmps27
  go_wp2_with (go_at_call 36; refine (l01In_any _ _ _ _).mono ?_; rintro e w' ⟨rfl, rfl⟩)
  all_goals go_ret
  · exact ⟨by simp [*], gr_alloc (gr_refl _ _) _⟩
  · exact ⟨by simp [*], gr_alloc (gr_refl _ _) _⟩
theorem toCistern_any (a p : Int) (w : World) :
    Calls Try.prog 7 #[.agg #[.int .i64 a, .int .i64 p]] w fun e w' => e = .returned (.agg #[.int .i64 a, .int .i64 p]) ∧ Gr w w' none := by
  go_enter Try.func7, Try.ntmps7
  go_wp2
  go_returns
  exact ⟨rfl, (by repeat (first | (with_reducible exact gr_refl _ _) | (with_reducible assumption) | (with_reducible refine gr_drew ?_) | (with_reducible refine gr_drewN ?_ _) | (with_reducible refine gr_alloc ?_ _) | (with_reducible refine gr_set ?_ (.inr (by simp; done)) _) | (with_reducible refine gr_set ?_ (.inr (by simp; omega)) _) | (with_reducible refine gr_then ?_ (by with_reducible assumption))))⟩
def spaceV (r l : Int) : Int := if cistB r l then r - l else -1
theorem spaceIn_any (r l : Int) (w : World) :
    Calls Try.prog 15 #[.agg #[.int .i64 r, .int .i64 l]] w fun e w' => e = .returned (.int .i64 (spaceV r l)) ∧ Gr w w' none := by
  unfold spaceV
  cases hb : cistB r l
  · go_enter Try.func15, Try.ntmps15
    go_wp2_with fail
    refine (cisternOk_any _ _ _).mono ?_
    rintro e w1 ⟨rfl, g1'⟩
    have g1 := g1'
    clear g1'
    have c1 := gr_cell g1
    go_wp2
    go_ret
    exact ⟨rfl, (by repeat (first | (with_reducible exact gr_refl _ _) | (with_reducible assumption) | (with_reducible refine gr_drew ?_) | (with_reducible refine gr_drewN ?_ _) | (with_reducible refine gr_alloc ?_ _) | (with_reducible refine gr_set ?_ (.inr (by simp; done)) _) | (with_reducible refine gr_set ?_ (.inr (by simp; omega)) _) | (with_reducible refine gr_then ?_ (by with_reducible assumption))))⟩
  · obtain ⟨⟨b1, b2⟩, b3, b4⟩ := cistB_true hb
    go_enter Try.func15, Try.ntmps15
    go_wp2_with fail
    refine (cisternOk_any _ _ _).mono ?_
    rintro e w1 ⟨rfl, g1'⟩
    have g1 := g1'
    clear g1'
    have c1 := gr_cell g1
    go_wp2
    go_ret
    exact ⟨rfl, (by repeat (first | (with_reducible exact gr_refl _ _) | (with_reducible assumption) | (with_reducible refine gr_drew ?_) | (with_reducible refine gr_drewN ?_ _) | (with_reducible refine gr_alloc ?_ _) | (with_reducible refine gr_set ?_ (.inr (by simp; done)) _) | (with_reducible refine gr_set ?_ (.inr (by simp; omega)) _) | (with_reducible refine gr_then ?_ (by with_reducible assumption))))⟩
def fullV (r l : Int) : Int := if cistB r l then l * 100 / r else -1
theorem partFull_any (r l : Int) (w : World) :
    Calls Try.prog 17 #[.agg #[.int .i64 r, .int .i64 l]] w fun e w' => e = .returned (.int .i64 (fullV r l)) ∧ Gr w w' none := by
  unfold fullV
  cases hb : cistB r l
  · go_enter Try.func17, Try.ntmps17
    go_wp2_with fail
    refine (cisternOk_any _ _ _).mono ?_
    rintro e w1 ⟨rfl, g1'⟩
    have g1 := g1'
    clear g1'
    have c1 := gr_cell g1
    go_wp2
    go_ret
    exact ⟨rfl, (by repeat (first | (with_reducible exact gr_refl _ _) | (with_reducible assumption) | (with_reducible refine gr_drew ?_) | (with_reducible refine gr_drewN ?_ _) | (with_reducible refine gr_alloc ?_ _) | (with_reducible refine gr_set ?_ (.inr (by simp; done)) _) | (with_reducible refine gr_set ?_ (.inr (by simp; omega)) _) | (with_reducible refine gr_then ?_ (by with_reducible assumption))))⟩
  · obtain ⟨⟨b1, b2⟩, b3, b4⟩ := cistB_true hb
    have hr0 : (r == 0) = false := by simp; omega
    go_enter Try.func17, Try.ntmps17
    go_wp2_with fail
    refine (cisternOk_any _ _ _).mono ?_
    rintro e w1 ⟨rfl, g1'⟩
    have g1 := g1'
    clear g1'
    have c1 := gr_cell g1
    go_wp2
    go_ret
    exact ⟨rfl, (by repeat (first | (with_reducible exact gr_refl _ _) | (with_reducible assumption) | (with_reducible refine gr_drew ?_) | (with_reducible refine gr_drewN ?_ _) | (with_reducible refine gr_alloc ?_ _) | (with_reducible refine gr_set ?_ (.inr (by simp; done)) _) | (with_reducible refine gr_set ?_ (.inr (by simp; omega)) _) | (with_reducible refine gr_then ?_ (by with_reducible assumption))))⟩
end Go.Proofs.Ytbmgmolnknnaiaa
