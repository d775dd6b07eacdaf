/- The law FnExactLevelsOf over a year, walked. -/
import Derived.Test.YtmnfainepmnpeaaYearH
import Derived.Test.YtmnfainepmnpeaaYShort
namespace Go.Proofs.Ytmnfainepmnpeaa
open Go.RowKit

set_option maxHeartbeats 2000000 in
theorem walk_FnExactLevelsOf (r s : Int) (v : Value) (n : Int) (xs : List Int) (w : World) (_ : I64 r) (_ : I64 s) (hv : Ints w v xs) (_ : I64 n) :
    Calls Try.prog 12 #[.agg #[.int .i64 r, .int .i64 s, v, .int .i64 n]] w fun e w' => e = .returned (.bool true) ∧ Gr w w' none := by
  have HV := hid hv
  obtain ⟨_, a, cap, rfl, _, _, hat⟩ := hv
  have hys : (levelsV r s n xs).length ≤ 1048576 := levels_short r s n xs
  generalize hY : levelsV r s n xs = ys at hys
  have HY := hid hY
  clear hat hY
  go_enter Try.func12, Try.ntmps12
  go_wp2_with fail
  refine (szYear_any _ _ _ _ (HV.out.on (by repeat (first | (with_reducible exact gr_refl _ _) | (with_reducible assumption) | (with_reducible refine gr_drew ?_) | (with_reducible refine gr_drewN ?_ _) | (with_reducible refine gr_alloc ?_ _) | (with_reducible refine gr_set ?_ (.inr (by simp; done)) _) | (with_reducible refine gr_set ?_ (.inr (by simp; omega)) _) | (with_reducible refine gr_then ?_ (by with_reducible assumption)))))).mono ?_
  rintro e w1 ⟨q, rfl, hs, g1⟩
  have G1 := hid (show Gr w w1 none from gr_then (by repeat (first | (with_reducible exact gr_refl _ _) | (with_reducible assumption) | (with_reducible refine gr_drew ?_) | (with_reducible refine gr_drewN ?_ _) | (with_reducible refine gr_alloc ?_ _) | (with_reducible refine gr_set ?_ (.inr (by simp; done)) _) | (with_reducible refine gr_set ?_ (.inr (by simp; omega)) _) | (with_reducible refine gr_then ?_ (by with_reducible assumption)))) g1)
  rcases hs with hs | ⟨hs, hl⟩
  · clear g1
    go_wp2
    go_ret
    exact ⟨rfl, G1.out⟩
  have A1 := hid ((yBox_new w _ _ _ _ _).on g1)
  have z1 := gr_le g1
  simp only [World.size_alloc] at z1
  clear g1
  obtain ⟨pA0, pA1, pA2, pA3, lA⟩ := A1.out
  go_wp2_with fail
  refine (toYear_any _ _ _ _ (HV.out.on G1.out) hl).mono ?_
  rintro e w2 ⟨u2, rfl, i2, g2⟩
  have z2 := gr_le g2
  have G2 := hid (gr_then G1.out g2)
  have A2 := hid (A1.out.on (g2))
  clear A1
  have I2 := hid i2
  clear g2 i2
  clear pA0 pA1 pA2 pA3 lA
  go_wp2_with fail
  refine (sLevelsOf_any _ _ _ _ I2.out.ints).mono ?_
  rw [HY.out]
  rintro e w3 ⟨s3, rfl, os, g3⟩
  obtain ⟨sa, sc, rfl⟩ := sl_own os.2
  have S3 := hid os
  have SB := hid (bnd os.2 (Nat.le_refl _))
  have z3 := gr_le g3
  have G3 := hid (gr_then G2.out g3)
  have A3 := hid (A2.out.on (g3))
  clear A2
  clear I2 G2 g3 os
  obtain ⟨pA0, pA1, pA2, pA3, lA⟩ := A3.out
  go_wp2_with fail
  refine (toYear_any _ _ _ _ (HV.out.on G3.out) hl).mono ?_
  rintro e w4 ⟨u4, rfl, i4, g4⟩
  obtain ⟨xa, xc, rfl⟩ := sl_own i4.2
  have z4 := gr_le g4
  have X4 := hid i4
  have XB := hid (bnd i4.2 (Nat.le_refl _))
  have G4 := hid (gr_then G3.out g4)
  have A4 := hid (A3.out.on (g4))
  have S4 := hid (S3.out.on (g4))
  clear A3 S3
  clear pA0 pA1 pA2 pA3 lA
  clear g4 i4 G3
  go_wp2_with fail
  refine (implLevelsOf_any _ _ _ _ (X4.out.ints.on (by repeat (first | (with_reducible exact gr_refl _ _) | (with_reducible assumption) | (with_reducible refine gr_drew ?_) | (with_reducible refine gr_drewN ?_ _) | (with_reducible refine gr_alloc ?_ _) | (with_reducible refine gr_set ?_ (.inr (by simp; done)) _) | (with_reducible refine gr_set ?_ (.inr (by simp; omega)) _) | (with_reducible refine gr_then ?_ (by with_reducible assumption)))))).mono ?_
  rw [HY.out]
  rintro e w5 ⟨r5, rfl, or, g5⟩
  obtain ⟨ra, rc, rfl⟩ := sl_own or.2
  have z5 := gr_le g5
  simp only [World.size_alloc] at z5 or
  have R5 := hid or
  have RB := hid (bnd or.2 (Nat.le_refl _))
  have g45 := gr_then (gr_alloc (gr_refl w4 none) _) g5
  have B5 := hid ((yBox_new w4 _ _ _ _ _).on g5)
  have G5 := hid (gr_then G4.out g45)
  have A5 := hid (A4.out.on (g45))
  have S5 := hid (S4.out.on (g45))
  have X5 := hid (X4.out.on (g45))
  clear A4 S4 X4
  clear g5 g45 or G4
  go_wp2_with fail
  refine (eqIntS_any _ R5.out.ints S5.out.ints).mono ?_
  rintro e w6 ⟨rfl, g6⟩
  have z6 := gr_le g6
  have G6 := hid (gr_then G5.out g6)
  have A6 := hid (A5.out.on (g6))
  have B6 := hid (B5.out.on (g6))
  have S6 := hid (S5.out.on (g6))
  have X6 := hid (X5.out.on (g6))
  have R6 := hid (R5.out.on (g6))
  clear A5 B5 S5 X5 R5
  have V6 := hid (HV.out.on G6.out)
  clear g6 G5
  obtain ⟨pA0, pA1, pA2, pA3, lA⟩ := A6.out
  obtain ⟨pB0, pB1, pB2, pB3, lB⟩ := B6.out
  have HA := hid (And.intro pA0 (And.intro pA1 (And.intro pA2 (And.intro pA3 (And.intro pB0 (And.intro pB1 (And.intro pB2 (And.intro pB3 (gr_refl w6 none)))))))))
  clear pA0 pA1 pA2 pA3 lA pB0 pB1 pB2 pB3 lB
  go_wp2_with fail
  go_region_held3 (fun w' => w'.cell? ⟨w.heap.size, 0, none⟩ = some (.int .i64 r) ∧ w'.cell? ⟨w.heap.size, 1, none⟩ = some (.int .i64 s) ∧ w'.cell? ⟨w.heap.size, 2, none⟩ = some (.slice a xs.length cap) ∧ w'.cell? ⟨w.heap.size, 3, none⟩ = some (.int .i64 n) ∧ w'.cell? ⟨w4.heap.size, 0, none⟩ = some (.int .i64 r) ∧ w'.cell? ⟨w4.heap.size, 1, none⟩ = some (.int .i64 s) ∧ w'.cell? ⟨w4.heap.size, 2, none⟩ = some (.slice xa xs.length xc) ∧ w'.cell? ⟨w4.heap.size, 3, none⟩ = some (.int .i64 n) ∧ Gr w6 w' none)
    (first | exact heldY (by assumption) (by assumption) | exact heldY HA.out (gr_drew (gr_refl _ _)) | exact HA.out)
    (first
      | (go_at_call 19; refine (toYear_any _ _ _ _ (V6.out.on (gr_drew (gr_refl _ _))) hl).mono ?_; rintro e w' ⟨u7, rfl, i7, g7⟩)
      | (go_at_call 21; refine (eqYear_same _ _ _ _ (X6.out.ints.on (gr_then (gr_drew (gr_refl _ _)) g7)) i7.ints).mono ?_; rintro e w' ⟨rfl, g8'⟩))
  have hh : w'.cell? ⟨w.heap.size, 0, none⟩ = some (.int .i64 r) ∧ w'.cell? ⟨w.heap.size, 1, none⟩ = some (.int .i64 s) ∧ w'.cell? ⟨w.heap.size, 2, none⟩ = some (.slice a xs.length cap) ∧ w'.cell? ⟨w.heap.size, 3, none⟩ = some (.int .i64 n) ∧ w'.cell? ⟨w4.heap.size, 0, none⟩ = some (.int .i64 r) ∧ w'.cell? ⟨w4.heap.size, 1, none⟩ = some (.int .i64 s) ∧ w'.cell? ⟨w4.heap.size, 2, none⟩ = some (.slice xa xs.length xc) ∧ w'.cell? ⟨w4.heap.size, 3, none⟩ = some (.int .i64 n) ∧ Gr w6 w' none := by assumption
  have g8 := hh.2.2.2.2.2.2.2.2
  have z8 := gr_le g8
  have G8 := hid (gr_then G6.out g8)
  have A8 := hid (A6.out.on (g8))
  have B8 := hid (B6.out.on (g8))
  have S8 := hid (S6.out.on (g8))
  have X8 := hid (X6.out.on (g8))
  have R8 := hid (R6.out.on (g8))
  clear A6 B6 S6 X6 R6
  clear hh i7 g7 g8' g8 G6 HA V6
  obtain ⟨pB0, pB1, pB2, pB3, lB⟩ := B8.out
  go_wp2_with fail
  refine (markYear_any _ _ _ _ X8.out hl _ (by omega) (by omega)).mono ?_
  rintro e w9 ⟨rfl, x9, m9⟩
  have z9 := gr_le m9
  clear pB0 pB1 pB2 pB3 lB
  have A9 := hid (A8.out.kept m9 (ne_of XB.out (by omega)))
  have S9 := hid (S8.out.kept m9 (ne_rows SB.out XB.out (by omega)))
  have R9 := hid (R8.out.kept m9 (ne_rows RB.out XB.out (by omega)))
  have G9 := hid (gr_row G8.out m9 (fun j e => by have := XB.out j e; omega))
  clear A8 B8 S8 X8 R8 x9 m9 G8
  go_wp2_with fail
  refine (eqIntS_any _ R9.out.ints S9.out.ints).mono ?_
  rintro e w10 ⟨rfl, g10⟩
  have z10 := gr_le g10
  have G10 := hid (gr_then G9.out g10)
  have A10 := hid (A9.out.on (g10))
  have S10 := hid (S9.out.on (g10))
  have R10 := hid (R9.out.on (g10))
  clear A9 S9 R9
  clear g10 G9
  go_wp2_with fail
  refine (markIntS_any 1 _ R10.out hys (by omega) (by omega)).mono ?_
  rintro e w11 ⟨rfl, r11, m11⟩
  have z11 := gr_le m11
  have A11 := hid (A10.out.kept m11 (ne_of RB.out (by omega)))
  have S11 := hid (S10.out.kept m11 (ne_rows SB.out RB.out (by omega)))
  have R11 := hid r11
  have G11 := hid (gr_row G10.out m11 (fun j e => by have := RB.out j e; omega))
  clear A10 S10 R10 r11 m11 G10
  go_wp2_with fail
  refine (heldIntS_any ys.length 1 _ R11.out.ints hys (by omega) (by omega)).mono ?_
  rintro e w' ⟨rfl, rfl⟩
  obtain ⟨pA0, pA1, pA2, pA3, lA⟩ := A11.out
  go_wp2_with fail
  refine (toYear_any _ _ _ _ (HV.out.on G11.out) hl).mono ?_
  rintro e w12 ⟨u12, rfl, i12, g12⟩
  have G12 := hid (gr_then G11.out g12)
  have S12 := hid (S11.out.on (g12))
  have R12 := hid (R11.out.on (g12))
  clear S11 R11
  clear pA0 pA1 pA2 pA3 lA
  have I12 := hid i12.ints
  clear g12 G11 A11 i12
  go_wp2_with fail
  refine (implLevelsOf_any _ _ _ _ I12.out).mono ?_
  rw [HY.out]
  rintro e w13 ⟨h13, rfl, oh, g13⟩
  obtain ⟨ha, hc, rfl⟩ := sl_own oh.2
  have H13 := hid oh
  have G13 := hid (gr_then G12.out g13)
  have S13 := hid (S12.out.on (g13))
  have R13 := hid (R12.out.on (g13))
  clear S12 R12
  clear g13 G12 oh
  go_wp2_with fail
  refine (eqIntS_any _ H13.out.ints S13.out.ints).mono ?_
  rintro e w14 ⟨rfl, g14⟩
  have R14 := hid (R13.out.on g14)
  have G14 := hid (gr_then G13.out g14)
  clear g14 G13 S13 H13 R13
  go_wp2_with fail
  refine (heldIntS_any ys.length 1 _ R14.out.ints hys (by omega) (by omega)).mono ?_
  rintro e w' ⟨rfl, rfl⟩
  go_wp2
  go_ret
  exact ⟨rfl, G14.out⟩
end Go.Proofs.Ytmnfainepmnpeaa
