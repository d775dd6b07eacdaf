/- The laws over rain that compare one number or bool, walked. -/
import Derived.Test.YthbambpecoffaaaRain2
import Derived.Test.YthbambpecoffaaaSlc
namespace Go.Proofs.Ythbambpecoffaaa
open Go.RowKit

theorem walk_FnExactRainOk (v : Value) (xs : List Int) (w : World) (h : Ints w v xs) :
    Calls Try.prog 6 #[v] w fun e w' => e = .returned (.bool true) ∧ Gr w w' none := by
  have H := hid h
  obtain ⟨_, a, cap, rfl, hcap, hmax, hat⟩ := h
  unfold maxLen at hmax
  clear hat
  by_cases hs : xs.length ≤ 1048576
  · go_enter Try.func6, Try.ntmps6
    go_wp2_with fail
    refine (toIntS_any _ H.out hs).mono ?_
    rintro e w1 ⟨u1, rfl, o1, g1⟩
    go_wp2_with fail
    refine (sRainOk_any _ o1.ints).mono ?_
    rintro e w' ⟨rfl, rfl⟩
    go_wp2_with fail
    refine (toIntS_any _ (H.out.on g1) hs).mono ?_
    rintro e w2 ⟨u2, rfl, o2, g2⟩
    go_wp2_with fail
    refine (rainOk_any _ o2.ints).mono ?_
    rintro e w' ⟨rfl, rfl⟩
    go_wp2_with fail
    refine (toIntS_any _ (H.out.on (gr_then g1 g2)) hs).mono ?_
    rintro e w3 ⟨u3, rfl, o3, g3⟩
    go_wp2_with fail
    refine (eqIntS_any _ (o2.on g3).ints o3.ints).mono ?_
    rintro e w4 ⟨rfl, g4⟩
    go_wp2
    go_ret
    exact ⟨rfl, (by repeat (first | (with_reducible exact gr_refl _ _) | (with_reducible assumption) | (with_reducible refine gr_drew ?_) | (with_reducible refine gr_drewN ?_ _) | (with_reducible refine gr_alloc ?_ _) | (with_reducible refine gr_set ?_ (.inr (by simp; done)) _) | (with_reducible refine gr_set ?_ (.inr (by simp; omega)) _) | (with_reducible refine gr_then ?_ (by with_reducible assumption))))⟩
  · go_enter Try.func6, Try.ntmps6
    go_wp2
    go_ret
    exact ⟨rfl, gr_refl _ _⟩
theorem walk_FnExactTotalRain (v : Value) (xs : List Int) (w : World) (h : Ints w v xs) :
    Calls Try.prog 8 #[v] w fun e w' => e = .returned (.bool true) ∧ Gr w w' none := by
  have H := hid h
  obtain ⟨_, a, cap, rfl, hcap, hmax, hat⟩ := h
  unfold maxLen at hmax
  clear hat
  by_cases hs : xs.length ≤ 1048576
  · go_enter Try.func8, Try.ntmps8
    go_wp2_with fail
    refine (toIntS_any _ H.out hs).mono ?_
    rintro e w1 ⟨u1, rfl, o1, g1⟩
    go_wp2_with fail
    refine (sTotalRain_any _ o1.ints).mono ?_
    rintro e w' ⟨rfl, rfl⟩
    go_wp2_with fail
    refine (toIntS_any _ (H.out.on g1) hs).mono ?_
    rintro e w2 ⟨u2, rfl, o2, g2⟩
    go_wp2_with fail
    refine (totalRain_any _ o2.ints).mono ?_
    rintro e w' ⟨rfl, rfl⟩
    go_wp2_with fail
    refine (toIntS_any _ (H.out.on (gr_then g1 g2)) hs).mono ?_
    rintro e w3 ⟨u3, rfl, o3, g3⟩
    go_wp2_with fail
    refine (eqIntS_any _ (o2.on g3).ints o3.ints).mono ?_
    rintro e w4 ⟨rfl, g4⟩
    go_wp2
    go_ret
    exact ⟨rfl, (by repeat (first | (with_reducible exact gr_refl _ _) | (with_reducible assumption) | (with_reducible refine gr_drew ?_) | (with_reducible refine gr_drewN ?_ _) | (with_reducible refine gr_alloc ?_ _) | (with_reducible refine gr_set ?_ (.inr (by simp; done)) _) | (with_reducible refine gr_set ?_ (.inr (by simp; omega)) _) | (with_reducible refine gr_then ?_ (by with_reducible assumption))))⟩
  · go_enter Try.func8, Try.ntmps8
    go_wp2
    go_ret
    exact ⟨rfl, gr_refl _ _⟩
theorem walk_FnExactLongestDry (v : Value) (xs : List Int) (w : World) (h : Ints w v xs) :
    Calls Try.prog 10 #[v] w fun e w' => e = .returned (.bool true) ∧ Gr w w' none := by
  have H := hid h
  obtain ⟨_, a, cap, rfl, hcap, hmax, hat⟩ := h
  unfold maxLen at hmax
  clear hat
  by_cases hs : xs.length ≤ 1048576
  · go_enter Try.func10, Try.ntmps10
    go_wp2_with fail
    refine (toIntS_any _ H.out hs).mono ?_
    rintro e w1 ⟨u1, rfl, o1, g1⟩
    go_wp2_with fail
    refine (sLongestDry_any _ o1.ints).mono ?_
    rintro e w' ⟨rfl, rfl⟩
    go_wp2_with fail
    refine (toIntS_any _ (H.out.on g1) hs).mono ?_
    rintro e w2 ⟨u2, rfl, o2, g2⟩
    go_wp2_with fail
    refine (longestDry_any _ o2.ints).mono ?_
    rintro e w' ⟨rfl, rfl⟩
    go_wp2_with fail
    refine (toIntS_any _ (H.out.on (gr_then g1 g2)) hs).mono ?_
    rintro e w3 ⟨u3, rfl, o3, g3⟩
    go_wp2_with fail
    refine (eqIntS_any _ (o2.on g3).ints o3.ints).mono ?_
    rintro e w4 ⟨rfl, g4⟩
    go_wp2
    go_ret
    exact ⟨rfl, (by repeat (first | (with_reducible exact gr_refl _ _) | (with_reducible assumption) | (with_reducible refine gr_drew ?_) | (with_reducible refine gr_drewN ?_ _) | (with_reducible refine gr_alloc ?_ _) | (with_reducible refine gr_set ?_ (.inr (by simp; done)) _) | (with_reducible refine gr_set ?_ (.inr (by simp; omega)) _) | (with_reducible refine gr_then ?_ (by with_reducible assumption))))⟩
  · go_enter Try.func10, Try.ntmps10
    go_wp2
    go_ret
    exact ⟨rfl, gr_refl _ _⟩
theorem walk_FnExactWettestDay (v : Value) (xs : List Int) (w : World) (h : Ints w v xs) :
    Calls Try.prog 9 #[v] w fun e w' => e = .returned (.bool true) ∧ Gr w w' none := by
  have H := hid h
  obtain ⟨_, a, cap, rfl, hcap, hmax, hat⟩ := h
  unfold maxLen at hmax
  clear hat
  by_cases hs : xs.length ≤ 1048576
  · go_enter Try.func9, Try.ntmps9
    go_wp2_with fail
    refine (toIntS_any _ H.out hs).mono ?_
    rintro e w1 ⟨u1, rfl, o1, g1⟩
    go_wp2_with fail
    refine (sWettestDay_any _ o1.ints).mono ?_
    rintro e w1' ⟨rfl, g1'⟩
    go_wp2_with fail
    refine (toIntS_any _ (H.out.on (gr_then g1 g1')) hs).mono ?_
    rintro e w2 ⟨u2, rfl, o2, g2⟩
    go_wp2_with fail
    refine (wettestDay_any _ o2.ints).mono ?_
    rintro e w' ⟨rfl, rfl⟩
    go_wp2_with fail
    refine (toIntS_any _ (H.out.on (gr_then (gr_then g1 g1') g2)) hs).mono ?_
    rintro e w3 ⟨u3, rfl, o3, g3⟩
    go_wp2_with fail
    refine (eqIntS_any _ (o2.on g3).ints o3.ints).mono ?_
    rintro e w4 ⟨rfl, g4⟩
    go_wp2
    go_ret
    exact ⟨rfl, (by repeat (first | (with_reducible exact gr_refl _ _) | (with_reducible assumption) | (with_reducible refine gr_drew ?_) | (with_reducible refine gr_drewN ?_ _) | (with_reducible refine gr_alloc ?_ _) | (with_reducible refine gr_set ?_ (.inr (by simp; done)) _) | (with_reducible refine gr_set ?_ (.inr (by simp; omega)) _) | (with_reducible refine gr_then ?_ (by with_reducible assumption))))⟩
  · go_enter Try.func9, Try.ntmps9
    go_wp2
    go_ret
    exact ⟨rfl, gr_refl _ _⟩
end Go.Proofs.Ythbambpecoffaaa
