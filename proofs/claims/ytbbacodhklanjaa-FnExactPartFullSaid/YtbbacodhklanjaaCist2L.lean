/- The laws over single cisterns, walked. -/
import Derived.Test.YtbbacodhklanjaaCist2
import Derived.Test.YtbbacodhklanjaaBoxes
namespace Go.Proofs.Ytbbacodhklanjaa
open Go.RowKit

theorem walk_FnExactCisternOk (r l : Int) (w : World) (_ : I64 r) (_ : I64 l) :
    Calls Try.prog 3 #[.agg #[.int .i64 r, .int .i64 l]] w fun e w' => e = .returned (.bool true) ∧ Gr w w' none := by
  go_enter Try.func3, Try.ntmps3
  go_wp2_with fail
  refine (toCistern_any _ _ _).mono ?_
  rintro e w1 ⟨rfl, g1'⟩
  have g1 := g1'
  clear g1'
  have c1 := gr_cell g1
  go_wp2_with fail
  refine (sCisternOk_any _ _ _).mono ?_
  rintro e w2 ⟨rfl, g2'⟩
  have g2 := gr_then g1 g2'
  clear g2'
  have c2 := gr_cell g2
  go_wp2_with fail
  refine (toCistern_any _ _ _).mono ?_
  rintro e w3 ⟨rfl, g3'⟩
  have g3 := gr_then g2 g3'
  clear g3'
  have c3 := gr_cell g3
  go_wp2_with fail
  refine (cisternOk_any _ _ _).mono ?_
  rintro e w4 ⟨rfl, g4'⟩
  have g4 := gr_then g3 g4'
  clear g4'
  have c4 := gr_cell g4
  go_wp2
  go_ret
  exact ⟨rfl, (by repeat (first | (with_reducible exact gr_refl _ _) | (with_reducible assumption) | (with_reducible refine gr_drew ?_) | (with_reducible refine gr_drewN ?_ _) | (with_reducible refine gr_alloc ?_ _) | (with_reducible refine gr_set ?_ (.inr (by simp; done)) _) | (with_reducible refine gr_set ?_ (.inr (by simp; omega)) _) | (with_reducible refine gr_then ?_ (by with_reducible assumption))))⟩
theorem walk_FnExactSpaceIn (r l : Int) (w : World) (_ : I64 r) (_ : I64 l) :
    Calls Try.prog 5 #[.agg #[.int .i64 r, .int .i64 l]] w fun e w' => e = .returned (.bool true) ∧ Gr w w' none := by
  go_enter Try.func5, Try.ntmps5
  go_wp2_with fail
  refine (toCistern_any _ _ _).mono ?_
  rintro e w1 ⟨rfl, g1'⟩
  have g1 := g1'
  clear g1'
  have c1 := gr_cell g1
  go_wp2_with fail
  refine (sSpaceIn_any _ _ _).mono ?_
  rintro e w2 ⟨rfl, g2'⟩
  have g2 := gr_then g1 g2'
  clear g2'
  have c2 := gr_cell g2
  go_wp2_with fail
  refine (toCistern_any _ _ _).mono ?_
  rintro e w3 ⟨rfl, g3'⟩
  have g3 := gr_then g2 g3'
  clear g3'
  have c3 := gr_cell g3
  go_wp2_with fail
  refine (spaceIn_any _ _ _).mono ?_
  rintro e w4 ⟨rfl, g4'⟩
  have g4 := gr_then g3 g4'
  clear g4'
  have c4 := gr_cell g4
  go_wp2
  go_ret
  exact ⟨rfl, (by repeat (first | (with_reducible exact gr_refl _ _) | (with_reducible assumption) | (with_reducible refine gr_drew ?_) | (with_reducible refine gr_drewN ?_ _) | (with_reducible refine gr_alloc ?_ _) | (with_reducible refine gr_set ?_ (.inr (by simp; done)) _) | (with_reducible refine gr_set ?_ (.inr (by simp; omega)) _) | (with_reducible refine gr_then ?_ (by with_reducible assumption))))⟩
theorem walk_FnExactPartFull (r l : Int) (w : World) (_ : I64 r) (_ : I64 l) :
    Calls Try.prog 4 #[.agg #[.int .i64 r, .int .i64 l]] w fun e w' => e = .returned (.bool true) ∧ Gr w w' none := by
  go_enter Try.func4, Try.ntmps4
  go_wp2_with fail
  refine (toCistern_any _ _ _).mono ?_
  rintro e w1 ⟨rfl, g1'⟩
  have g1 := g1'
  clear g1'
  have c1 := gr_cell g1
  go_wp2_with fail
  refine (sPartFull_any _ _ _).mono ?_
  rintro e w2 ⟨rfl, g2'⟩
  have g2 := gr_then g1 g2'
  clear g2'
  have c2 := gr_cell g2
  go_wp2_with fail
  refine (toCistern_any _ _ _).mono ?_
  rintro e w3 ⟨rfl, g3'⟩
  have g3 := gr_then g2 g3'
  clear g3'
  have c3 := gr_cell g3
  go_wp2_with fail
  refine (partFull_any _ _ _).mono ?_
  rintro e w4 ⟨rfl, g4'⟩
  have g4 := gr_then g3 g4'
  clear g4'
  have c4 := gr_cell g4
  go_wp2
  go_ret
  exact ⟨rfl, (by repeat (first | (with_reducible exact gr_refl _ _) | (with_reducible assumption) | (with_reducible refine gr_drew ?_) | (with_reducible refine gr_drewN ?_ _) | (with_reducible refine gr_alloc ?_ _) | (with_reducible refine gr_set ?_ (.inr (by simp; done)) _) | (with_reducible refine gr_set ?_ (.inr (by simp; omega)) _) | (with_reducible refine gr_then ?_ (by with_reducible assumption))))⟩
theorem walk_FnExactPour (r l x : Int) (w : World) (_ : I64 r) (_ : I64 l) (_ : I64 x) :
    Calls Try.prog 6 #[.agg #[.int .i64 r, .int .i64 l], .int .i64 x] w fun e w' => e = .returned (.bool true) ∧ Gr w w' none := by
  generalize hA : pourL r l x = A
  generalize hB : pourO r l x = B
  have HA := hid hA
  have HB := hid hB
  clear hA hB
  go_enter Try.func6, Try.ntmps6
  go_wp2_with fail
  refine (toCistern_any _ _ _).mono ?_
  rintro e w1 ⟨rfl, g1⟩
  have b1 := (box_new w _ r l).on g1
  go_wp2_with fail
  refine (sPour_any _ _ _ _).mono ?_
  rw [HA.out, HB.out]
  rintro e w2 ⟨rfl, g2⟩
  have b2 := b1.on g2
  have ⟨k20, k21, k22⟩ := b2
  go_wp2_with fail
  refine (toCistern_any _ _ _).mono ?_
  rintro e w3 ⟨rfl, g3⟩
  have s3 := (box_new w2 _ r A).on g3
  clear k20 k21 k22 b2
  go_wp2_with fail
  refine (pour_any _ _ _ _).mono ?_
  rw [HA.out, HB.out]
  rintro e w4 ⟨rfl, g4⟩
  have s4 := s3.on g4
  have ⟨k40, k41, k42⟩ := s4
  go_wp2_with fail
  refine (eqCistern_any _ _ _ _ _).mono ?_
  rw [eqCB_same]
  rintro e w5 ⟨rfl, g5⟩
  go_wp2
  go_ret
  exact ⟨rfl, (by repeat (first | (with_reducible exact gr_refl _ _) | (with_reducible assumption) | (with_reducible refine gr_drew ?_) | (with_reducible refine gr_drewN ?_ _) | (with_reducible refine gr_alloc ?_ _) | (with_reducible refine gr_set ?_ (.inr (by simp; done)) _) | (with_reducible refine gr_set ?_ (.inr (by simp; omega)) _) | (with_reducible refine gr_then ?_ (by with_reducible assumption))))⟩
theorem walk_FnExactTakeOut (r l x : Int) (w : World) (_ : I64 r) (_ : I64 l) (_ : I64 x) :
    Calls Try.prog 7 #[.agg #[.int .i64 r, .int .i64 l], .int .i64 x] w fun e w' => e = .returned (.bool true) ∧ Gr w w' none := by
  generalize hA : takeL r l x = A
  generalize hB : takeO r l x = B
  have HA := hid hA
  have HB := hid hB
  clear hA hB
  go_enter Try.func7, Try.ntmps7
  go_wp2_with fail
  refine (toCistern_any _ _ _).mono ?_
  rintro e w1 ⟨rfl, g1⟩
  have b1 := (box_new w _ r l).on g1
  go_wp2_with fail
  refine (sTakeOut_any _ _ _ _).mono ?_
  rw [HA.out, HB.out]
  rintro e w2 ⟨rfl, g2⟩
  have b2 := b1.on g2
  have ⟨k20, k21, k22⟩ := b2
  go_wp2_with fail
  refine (toCistern_any _ _ _).mono ?_
  rintro e w3 ⟨rfl, g3⟩
  have s3 := (box_new w2 _ r A).on g3
  clear k20 k21 k22 b2
  go_wp2_with fail
  refine (takeOut_any _ _ _ _).mono ?_
  rw [HA.out, HB.out]
  rintro e w4 ⟨rfl, g4⟩
  have s4 := s3.on g4
  have ⟨k40, k41, k42⟩ := s4
  go_wp2_with fail
  refine (eqCistern_any _ _ _ _ _).mono ?_
  rw [eqCB_same]
  rintro e w5 ⟨rfl, g5⟩
  go_wp2
  go_ret
  exact ⟨rfl, (by repeat (first | (with_reducible exact gr_refl _ _) | (with_reducible assumption) | (with_reducible refine gr_drew ?_) | (with_reducible refine gr_drewN ?_ _) | (with_reducible refine gr_alloc ?_ _) | (with_reducible refine gr_set ?_ (.inr (by simp; done)) _) | (with_reducible refine gr_set ?_ (.inr (by simp; omega)) _) | (with_reducible refine gr_then ?_ (by with_reducible assumption))))⟩
end Go.Proofs.Ytbbacodhklanjaa
