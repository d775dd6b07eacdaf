/- The laws over slices of roofs, walked. -/
import Derived.Test.YthbambpecoffaaaRoofs
namespace Go.Proofs.Ythbambpecoffaaa
open Go.RowKit

theorem walk_FnExactCatchAll (v : Value) (ps : List (Int × Int)) (r : Int) (w : World) (h : Pairs w v ps) (_ : I64 r) :
    Calls Try.prog 13 #[v, .int .i64 r] w fun e w' => e = .returned (.bool true) ∧ Gr w w' none := by
  by_cases hs : ps.length ≤ 1048576
  · have hn : ¬ ((1048576 : Int) < (ps.length : Int)) := by omega
    go_enter Try.func13, Try.ntmps13
    go_wp2_with fail
    refine (szRoofS_any _ _ h (by omega) (by omega)).mono ?_
    rw [if_neg (by omega)]
    rintro e w' ⟨rfl, rfl⟩
    go_wp2_with fail
    refine (toRoofS_any _ h hs).mono ?_
    rintro e w1 ⟨u1, rfl, o1, g1⟩
    go_wp2_with fail
    refine (sCatchAll_any _ _ o1.pairs hs).mono ?_
    rintro e w1' ⟨rfl, g1'⟩
    go_wp2_with fail
    refine (toRoofS_any _ (h.on (gr_then g1 g1')) hs).mono ?_
    rintro e w2 ⟨u2, rfl, o2, g2⟩
    go_wp2_with fail
    refine (catchAll_any _ _ o2.pairs).mono ?_
    rintro e w2' ⟨rfl, g2'⟩
    go_wp2_with fail
    refine (toRoofS_any _ (h.on (gr_then (gr_then (gr_then g1 g1') g2) g2')) hs).mono ?_
    rintro e w3 ⟨u3, rfl, o3, g3⟩
    go_wp2_with fail
    refine (eqRoofS_any _ ((o2.on g2').on g3).pairs o3.pairs).mono ?_
    rintro e w4 ⟨rfl, g4⟩
    go_wp2
    go_ret
    exact ⟨rfl, (by repeat (first | (with_reducible exact gr_refl _ _) | (with_reducible assumption) | (with_reducible refine gr_drew ?_) | (with_reducible refine gr_drewN ?_ _) | (with_reducible refine gr_alloc ?_ _) | (with_reducible refine gr_set ?_ (.inr (by simp; done)) _) | (with_reducible refine gr_set ?_ (.inr (by simp; omega)) _) | (with_reducible refine gr_then ?_ (by with_reducible assumption))))⟩
  · have hn : (1048576 : Int) < (ps.length : Int) := by omega
    go_enter Try.func13, Try.ntmps13
    go_wp2_with fail
    refine (szRoofS_any _ _ h (by omega) (by omega)).mono ?_
    rw [if_pos (by omega)]
    rintro e w' ⟨rfl, rfl⟩
    go_wp2
    go_ret
    exact ⟨rfl, gr_refl _ _⟩
end Go.Proofs.Ythbambpecoffaaa
