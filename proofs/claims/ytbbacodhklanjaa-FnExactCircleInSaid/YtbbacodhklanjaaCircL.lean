/- The law over the circles, walked. -/
import Derived.Test.YtbbacodhklanjaaCirc2
namespace Go.Proofs.Ytbbacodhklanjaa
open Go.RowKit

theorem circL_length (xs : List Int) : (circL xs).length ≤ xs.length := by
  unfold circL; split
  · exact circTo_length _ _
  · simp
set_option maxHeartbeats 1000000 in
theorem walk_FnExactCircleIn (v : Value) (xs : List Int) (w : World) (h : Ints w v xs) :
    Calls Try.prog 10 #[v] w fun e w' => e = .returned (.bool true) ∧ Gr w w' none := by
  have H := hid h
  obtain ⟨_, a, cap, rfl, hcap, hmax, hat⟩ := h
  unfold maxLen at hmax
  clear hat
  by_cases hs : xs.length ≤ 1048576
  · have hys : (circL xs).length ≤ 1048576 := Nat.le_trans (circL_length xs) hs
    generalize hyl : circL xs = ys at hys
    have HY := hid hyl
    clear hyl
    go_enter Try.func10, Try.ntmps10
    go_wp2_with fail
    refine (toIntS_any _ H.out hs).mono ?_
    rintro e w1 ⟨u1, rfl, o1, g1⟩
    go_wp2_with fail
    refine (sCircleIn_any _ o1.ints).mono ?_
    rw [HY.out]
    rintro e w2 ⟨s, rfl, os, g2'⟩
    have g2 := gr_then g1 g2'
    clear o1
    go_wp2_with fail
    refine (toIntS_any _ (H.out.on g2) hs).mono ?_
    rintro e w3 ⟨x, rfl, ox, g3'⟩
    have g3 := gr_then g2 g3'
    go_wp2_with fail
    refine (circleIn_any _ ox.ints).mono ?_
    rw [HY.out]
    rintro e w4 ⟨r, rfl, or, g4'⟩
    have g4 := gr_then g3 g4'
    have asx := apart_lt (B := w2.heap.size) (fun k hk => (os.lt k hk).2) ox.above
    have arx := apart_gt (B := w3.heap.size) or.above (fun k hk => (ox.lt k hk).2)
    have asr := apart_lt (B := w3.heap.size) (os.below g3') or.above
    have os4 := (os.on g3').on g4'
    have ox4 := ox.on g4'
    clear os ox
    go_wp2_with fail
    refine (eqIntS_any _ or.ints os4.ints).mono ?_
    rintro e w5 ⟨rfl, g5'⟩
    have g5 := gr_then g4 g5'
    have os5 := os4.on g5'
    have ox5 := ox4.on g5'
    have or5 := or.on g5'
    clear os4 ox4 or
    go_wp2_with fail
    refine (toIntS_any _ (H.out.on g5) hs).mono ?_
    rintro e w6 ⟨u6, rfl, o6, g6'⟩
    go_wp2_with fail
    refine (eqIntS_any _ (ox5.on g6').ints o6.ints).mono ?_
    rintro e w7 ⟨rfl, g7'⟩
    have g57 := gr_then g6' g7'
    have g7 := gr_then g5 g57
    have os7 := os5.on g57
    have ox7 := ox5.on g57
    have or7 := or5.on g57
    clear os5 ox5 or5 o6
    go_wp2_with fail
    refine (markIntS_any 1 _ ox7 hs (by omega) (by omega)).mono ?_
    rintro e w8 ⟨rfl, ox8, g8'⟩
    have g8 := gr_mark g7 ox7 (gr_le g2) g8'
    have os8 := os7.kept g8' asx
    have or8 := or7.kept g8' arx
    clear os7 ox7 or7 ox8
    go_wp2_with fail
    refine (eqIntS_any _ or8.ints os8.ints).mono ?_
    rintro e w9 ⟨rfl, g9'⟩
    have g9 := gr_then g8 g9'
    have os9 := os8.on g9'
    have or9 := or8.on g9'
    clear os8 or8
    go_wp2_with fail
    refine (markIntS_any 1 _ or9 hys (by omega) (by omega)).mono ?_
    rintro e w10 ⟨rfl, or10, g10'⟩
    have g10 := gr_mark g9 or9 (gr_le g3) g10'
    have os10 := os9.kept g10' asr
    clear os9 or9
    go_wp2_with fail
    refine (heldIntS_any ys.length 1 _ or10.ints hys (by omega) (by omega)).mono ?_
    rintro e w' ⟨rfl, rfl⟩
    go_wp2_with fail
    refine (toIntS_any _ (H.out.on g10) hs).mono ?_
    rintro e w11 ⟨u11, rfl, o11, g11'⟩
    go_wp2_with fail
    refine (circleIn_any _ o11.ints).mono ?_
    rw [HY.out]
    rintro e w12 ⟨u12, rfl, o12, g12'⟩
    have g1012 := gr_then g11' g12'
    have os12 := os10.on g1012
    have or12 := or10.on g1012
    clear os10 or10 o11
    go_wp2_with fail
    refine (eqIntS_any _ o12.ints os12.ints).mono ?_
    rintro e w13 ⟨rfl, g13'⟩
    go_wp2_with fail
    refine (heldIntS_any ys.length 1 _ (or12.on g13').ints hys (by omega) (by omega)).mono ?_
    rintro e w' ⟨rfl, rfl⟩
    go_wp2
    go_ret
    exact ⟨rfl, gr_then (gr_then g10 g1012) g13'⟩
  · go_enter Try.func10, Try.ntmps10
    go_wp2
    go_ret
    exact ⟨rfl, gr_refl _ _⟩
end Go.Proofs.Ytbbacodhklanjaa
