/- The laws over parts of the rain, walked. -/
import Derived.Test.YthbambpecoffaaaPart
namespace Go.Proofs.Ythbambpecoffaaa
open Go.RowKit

theorem walk_FnExactHasWetPart (v : Value) (xs : List Int) (d s : Int) (w : World) (h : Ints w v xs) (_ : I64 d) (_ : I64 s) :
    Calls Try.prog 12 #[v, .int .i64 d, .int .i64 s] w fun e w' => e = .returned (.bool true) ∧ Gr w w' none := by
  have H := hid h
  obtain ⟨_, a, cap, rfl, hcap, hmax, hat⟩ := h
  unfold maxLen at hmax
  clear hat
  by_cases hs : xs.length ≤ 1048576
  · go_enter Try.func12, Try.ntmps12
    go_wp2_with fail
    refine (toIntS_any _ H.out hs).mono ?_
    rintro e w1 ⟨u1, rfl, o1, g1⟩
    go_wp2_with fail
    refine (sHasWetPart_any d s _ o1.ints).mono ?_
    rintro e w1' ⟨rfl, g1'⟩
    go_wp2_with fail
    refine (toIntS_any _ (H.out.on (gr_then g1 g1')) hs).mono ?_
    rintro e w2 ⟨u2, rfl, o2, g2⟩
    go_wp2_with fail
    refine (hasWetPart_any d s _ o2.ints).mono ?_
    rintro e w' ⟨rfl, rfl⟩
    go_wp2_with fail
    refine (toIntS_any _ (H.out.on (gr_then (gr_then g1 g1') g2)) hs).mono ?_
    rintro e w3 ⟨u3, rfl, o3, g3⟩
    go_wp2_with fail
    refine (eqIntS_any _ (o2.on g3).ints o3.ints).mono ?_
    rintro e w4 ⟨rfl, g4⟩
    go_wp2
    go_ret
    exact ⟨rfl, (by repeat (first | (with_reducible exact gr_refl _ _) | (with_reducible assumption) | (with_reducible refine gr_drew ?_) | (with_reducible refine gr_drewN ?_ _) | (with_reducible refine gr_alloc ?_ _) | (with_reducible refine gr_set ?_ (.inr (by simp; done)) _) | (with_reducible refine gr_set ?_ (.inr (by simp; omega)) _) | (with_reducible refine gr_then ?_ (by with_reducible assumption))))⟩
  · go_enter Try.func12, Try.ntmps12
    go_wp2
    go_ret
    exact ⟨rfl, gr_refl _ _⟩
theorem walk_FnExactWettestWeek (v : Value) (xs : List Int) (w : World) (h : Ints w v xs) :
    Calls Try.prog 14 #[v] w fun e w' => e = .returned (.bool true) ∧ Gr w w' none := by
  have H := hid h
  obtain ⟨_, a, cap, rfl, hcap, hmax, hat⟩ := h
  unfold maxLen at hmax
  clear hat
  by_cases hs : xs.length ≤ 1048576
  · go_enter Try.func14, Try.ntmps14
    go_wp2_with fail
    refine (toIntS_any _ H.out hs).mono ?_
    rintro e w1 ⟨u1, rfl, o1, g1⟩
    go_wp2_with fail
    refine (sWettestWeek_any _ o1.ints).mono ?_
    rintro e w1' ⟨rfl, g1'⟩
    go_wp2_with fail
    refine (toIntS_any _ (H.out.on (gr_then g1 g1')) hs).mono ?_
    rintro e w2 ⟨u2, rfl, o2, g2⟩
    go_wp2_with fail
    refine (wettestWeek_any _ o2.ints).mono ?_
    rintro e w' ⟨rfl, rfl⟩
    go_wp2_with fail
    refine (toIntS_any _ (H.out.on (gr_then (gr_then g1 g1') g2)) hs).mono ?_
    rintro e w3 ⟨u3, rfl, o3, g3⟩
    go_wp2_with fail
    refine (eqIntS_any _ (o2.on g3).ints o3.ints).mono ?_
    rintro e w4 ⟨rfl, g4⟩
    go_wp2
    go_ret
    exact ⟨rfl, (by repeat (first | (with_reducible exact gr_refl _ _) | (with_reducible assumption) | (with_reducible refine gr_drew ?_) | (with_reducible refine gr_drewN ?_ _) | (with_reducible refine gr_alloc ?_ _) | (with_reducible refine gr_set ?_ (.inr (by simp; done)) _) | (with_reducible refine gr_set ?_ (.inr (by simp; omega)) _) | (with_reducible refine gr_then ?_ (by with_reducible assumption))))⟩
  · go_enter Try.func14, Try.ntmps14
    go_wp2
    go_ret
    exact ⟨rfl, gr_refl _ _⟩
end Go.Proofs.Ythbambpecoffaaa
