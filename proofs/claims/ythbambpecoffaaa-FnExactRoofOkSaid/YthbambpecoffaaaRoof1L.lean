/- The laws over single roofs, walked. -/
import Derived.Test.YthbambpecoffaaaRoof1
namespace Go.Proofs.Ythbambpecoffaaa
open Go.RowKit

theorem walk_FnExactRoofOk (a p : Int) (w : World) (_ : I64 a) (_ : I64 p) :
    Calls Try.prog 3 #[.agg #[.int .i64 a, .int .i64 p]] w fun e w' => e = .returned (.bool true) ∧ Gr w w' none := by
  go_enter Try.func3, Try.ntmps3
  go_wp2_with fail
  refine (toRoof_any _ _ _).mono ?_
  rintro e w1 ⟨rfl, g1'⟩
  have g1 := g1'
  clear g1'
  have c1 := gr_cell g1
  go_wp2_with fail
  refine (sRoofOk_any _ _ _).mono ?_
  rintro e w2 ⟨rfl, g2'⟩
  have g2 := gr_then g1 g2'
  clear g2'
  have c2 := gr_cell g2
  go_wp2_with fail
  refine (toRoof_any _ _ _).mono ?_
  rintro e w3 ⟨rfl, g3'⟩
  have g3 := gr_then g2 g3'
  clear g3'
  have c3 := gr_cell g3
  go_wp2_with fail
  refine (roofOk_any _ _ _).mono ?_
  rintro e w4 ⟨rfl, g4'⟩
  have g4 := gr_then g3 g4'
  clear g4'
  have c4 := gr_cell g4
  go_wp2
  go_ret
  exact ⟨rfl, (by repeat (first | (with_reducible exact gr_refl _ _) | (with_reducible assumption) | (with_reducible refine gr_drew ?_) | (with_reducible refine gr_drewN ?_ _) | (with_reducible refine gr_alloc ?_ _) | (with_reducible refine gr_set ?_ (.inr (by simp; done)) _) | (with_reducible refine gr_set ?_ (.inr (by simp; omega)) _) | (with_reducible refine gr_then ?_ (by with_reducible assumption))))⟩
theorem walk_FnExactCatch (a p r : Int) (w : World) (_ : I64 a) (_ : I64 p) (_ : I64 r) :
    Calls Try.prog 4 #[.agg #[.int .i64 a, .int .i64 p], .int .i64 r] w fun e w' => e = .returned (.bool true) ∧ Gr w w' none := by
  go_enter Try.func4, Try.ntmps4
  go_wp2_with fail
  refine (toRoof_any _ _ _).mono ?_
  rintro e w1 ⟨rfl, g1'⟩
  have g1 := g1'
  clear g1'
  have c1 := gr_cell g1
  go_wp2_with fail
  refine (sCatch_any _ _ _ _).mono ?_
  rintro e w2 ⟨rfl, g2'⟩
  have g2 := gr_then g1 g2'
  clear g2'
  have c2 := gr_cell g2
  go_wp2_with fail
  refine (toRoof_any _ _ _).mono ?_
  rintro e w3 ⟨rfl, g3'⟩
  have g3 := gr_then g2 g3'
  clear g3'
  have c3 := gr_cell g3
  go_wp2_with fail
  refine (catch_any _ _ _ _).mono ?_
  rintro e w4 ⟨rfl, g4'⟩
  have g4 := gr_then g3 g4'
  clear g4'
  have c4 := gr_cell g4
  go_wp2
  go_ret
  exact ⟨rfl, (by repeat (first | (with_reducible exact gr_refl _ _) | (with_reducible assumption) | (with_reducible refine gr_drew ?_) | (with_reducible refine gr_drewN ?_ _) | (with_reducible refine gr_alloc ?_ _) | (with_reducible refine gr_set ?_ (.inr (by simp; done)) _) | (with_reducible refine gr_set ?_ (.inr (by simp; omega)) _) | (with_reducible refine gr_then ?_ (by with_reducible assumption))))⟩
end Go.Proofs.Ythbambpecoffaaa
