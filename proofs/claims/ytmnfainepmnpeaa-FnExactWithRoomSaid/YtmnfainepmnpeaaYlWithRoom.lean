/- The law over a year with another room, walked. -/
import Derived.Test.YtmnfainepmnpeaaYearH
import Derived.Test.YtmnfainepmnpeaaYWith3
namespace Go.Proofs.Ytmnfainepmnpeaa
open Go.RowKit

set_option maxHeartbeats 4000000 in
theorem walk_FnExactWithRoom (r s : Int) (v : Value) (n : Int) (xs : List Int) (m : Int) (w : World) (_ : I64 r) (_ : I64 s) (hv : Ints w v xs) (_ : I64 n) (_ : I64 m) :
    Calls Try.prog 5 #[.agg #[.int .i64 r, .int .i64 s, v, .int .i64 n], .int .i64 m] w fun e w' => e = .returned (.bool true) ∧ Gr w w' none := by
  have HV := hid hv
  obtain ⟨_, a, cap, rfl, _, _, hat⟩ := hv
  generalize hR' : withR r s n xs m = R'
  generalize hS' : withS r s n xs m = S'
  have HR' := hid hR'
  have HS' := hid hS'
  clear hat hR' hS'
  go_enter Try.func5, Try.ntmps5
  go_wp2_with fail
  refine (szYear_any _ _ _ _ (HV.out.on (by repeat (first | (with_reducible exact gr_refl _ _) | (with_reducible assumption) | (with_reducible refine gr_drew ?_) | (with_reducible refine gr_drewN ?_ _) | (with_reducible refine gr_alloc ?_ _) | (with_reducible refine gr_set ?_ (.inr (by simp; done)) _) | (with_reducible refine gr_set ?_ (.inr (by simp; omega)) _) | (with_reducible refine gr_then ?_ (by with_reducible assumption)))))).mono ?_
  rintro e w1 ⟨q, rfl, hs, g1⟩
  have G1 := hid (show Gr w w1 none from gr_then (by repeat (first | (with_reducible exact gr_refl _ _) | (with_reducible assumption) | (with_reducible refine gr_drew ?_) | (with_reducible refine gr_drewN ?_ _) | (with_reducible refine gr_alloc ?_ _) | (with_reducible refine gr_set ?_ (.inr (by simp; done)) _) | (with_reducible refine gr_set ?_ (.inr (by simp; omega)) _) | (with_reducible refine gr_then ?_ (by with_reducible assumption)))) g1)
  rcases hs with hs | ⟨hs, hl⟩
  · clear g1
    go_wp2
    go_ret
    exact ⟨rfl, G1.out⟩
  have A1 := hid ((yBox_new w _ _ _ _ _).on g1)
  have z1 := gr_le g1
  simp only [World.size_alloc] at z1
  clear g1
  obtain ⟨pA0, pA1, pA2, pA3, lA⟩ := A1.out
  go_wp2_with fail
  refine (toYear_any _ _ _ _ (HV.out.on G1.out) hl).mono ?_
  rintro e w2 ⟨u2, rfl, i2, g2⟩
  clear pA0 pA1 pA2 pA3 lA
  have P2 := hid i2.ints
  have z2 := gr_le g2
  have G2 := hid (gr_then G1.out g2)
  have A2 := hid (A1.out.on (g2))
  clear A1
  clear i2 g2 G1
  go_wp2_with fail
  refine (sWithRoom_any _ _ _ _ _ P2.out hl).mono ?_
  rw [HR'.out, HS'.out]
  rintro e w3 ⟨s3, rfl, ws, g3⟩
  obtain ⟨sa, sc, rfl⟩ := sl_own ws.2
  have S3 := hid ws
  have SB := hid (bnd ws.2 (Nat.le_refl _))
  have z3 := gr_le g3
  have G3 := hid (gr_then G2.out g3)
  have A3 := hid (A2.out.on (g3))
  clear A2
  clear ws g3 G2 P2
  obtain ⟨pA0, pA1, pA2, pA3, lA⟩ := A3.out
  go_wp2_with fail
  refine (toYear_any _ _ _ _ (HV.out.on (gr_alloc G3.out _)) hl).mono ?_
  rintro e w4 ⟨u4, rfl, xi, g4⟩
  clear pA0 pA1 pA2 pA3 lA
  obtain ⟨xa, xc, rfl⟩ := sl_own xi.2
  have z4 := gr_le g4
  simp only [World.size_alloc] at z4 xi
  have X4 := hid xi
  have XB := hid (bnd xi.2 (Nat.le_refl _))
  have g34 := gr_then (gr_alloc (gr_refl w3 none) _) g4
  have W4 := hid ((yBox_new w3 27 R' S' (.slice sa xs.length sc) n).on g4)
  have G4 := hid (gr_then G3.out g34)
  have A4 := hid (A3.out.on (g34))
  have S4 := hid (S3.out.on (g34))
  clear A3 S3
  clear xi g4 g34 G3
  go_wp2_with fail
  refine (withRoom_any _ _ _ _ _ (X4.out.ints.on (by repeat (first | (with_reducible exact gr_refl _ _) | (with_reducible assumption) | (with_reducible refine gr_drew ?_) | (with_reducible refine gr_drewN ?_ _) | (with_reducible refine gr_alloc ?_ _) | (with_reducible refine gr_set ?_ (.inr (by simp; done)) _) | (with_reducible refine gr_set ?_ (.inr (by simp; omega)) _) | (with_reducible refine gr_then ?_ (by with_reducible assumption))))) hl).mono ?_
  rw [HR'.out, HS'.out]
  rintro e w5 ⟨r5, rfl, gi', g5⟩
  obtain ⟨ra, rc, rfl⟩ := sl_own gi'.2
  have z5 := gr_le g5
  simp only [World.size_alloc] at z5 gi'
  have R5 := hid gi'
  have RB := hid (bnd gi'.2 (Nat.le_refl _))
  have g45 := gr_then (gr_alloc (gr_refl w4 none) _) g5
  have B5 := hid ((yBox_new w4 27 r s (.slice xa xs.length xc) n).on g5)
  have G5 := hid (gr_then G4.out g45)
  have A5 := hid (A4.out.on (g45))
  have W5 := hid (W4.out.on (g45))
  have S5 := hid (S4.out.on (g45))
  have X5 := hid (X4.out.on (g45))
  clear A4 W4 S4 X4
  clear gi' g5 g45 G4
  obtain ⟨pW0, pW1, pW2, pW3, lW⟩ := W5.out
  go_wp2_with fail
  refine (eqYear_same _ _ _ _ (R5.out.ints.on (by repeat (first | (with_reducible exact gr_refl _ _) | (with_reducible assumption) | (with_reducible refine gr_drew ?_) | (with_reducible refine gr_drewN ?_ _) | (with_reducible refine gr_alloc ?_ _) | (with_reducible refine gr_set ?_ (.inr (by simp; done)) _) | (with_reducible refine gr_set ?_ (.inr (by simp; omega)) _) | (with_reducible refine gr_then ?_ (by with_reducible assumption))))) (S5.out.ints.on (by repeat (first | (with_reducible exact gr_refl _ _) | (with_reducible assumption) | (with_reducible refine gr_drew ?_) | (with_reducible refine gr_drewN ?_ _) | (with_reducible refine gr_alloc ?_ _) | (with_reducible refine gr_set ?_ (.inr (by simp; done)) _) | (with_reducible refine gr_set ?_ (.inr (by simp; omega)) _) | (with_reducible refine gr_then ?_ (by with_reducible assumption)))))).mono ?_
  rintro e w6 ⟨rfl, g6⟩
  clear pW0 pW1 pW2 pW3 lW
  have g56 := gr_then (gr_alloc (gr_refl w5 none) _) g6
  have z6 := gr_le g6
  simp only [World.size_alloc] at z6
  have C6 := hid ((yBox_new w5 27 R' S' (.slice ra xs.length rc) n).on g6)
  have G6 := hid (gr_then G5.out g56)
  have A6 := hid (A5.out.on (g56))
  have W6 := hid (W5.out.on (g56))
  have B6 := hid (B5.out.on (g56))
  have S6 := hid (S5.out.on (g56))
  have X6 := hid (X5.out.on (g56))
  have R6 := hid (R5.out.on (g56))
  clear A5 W5 B5 S5 X5 R5
  have V6 := hid (HV.out.on G6.out)
  clear g6 g56 G5
  obtain ⟨pA0, pA1, pA2, pA3, lA⟩ := A6.out
  obtain ⟨pB0, pB1, pB2, pB3, lB⟩ := B6.out
  have HA := hid (And.intro pA0 (And.intro pA1 (And.intro pA2 (And.intro pA3 (And.intro pB0 (And.intro pB1 (And.intro pB2 (And.intro pB3 (gr_refl w6 none)))))))))
  clear pA0 pA1 pA2 pA3 lA pB0 pB1 pB2 pB3 lB
  go_wp2_with fail
  go_region_held3 (fun w' => w'.cell? ⟨w.heap.size, 0, none⟩ = some (.int .i64 r) ∧ w'.cell? ⟨w.heap.size, 1, none⟩ = some (.int .i64 s) ∧ w'.cell? ⟨w.heap.size, 2, none⟩ = some (.slice a xs.length cap) ∧ w'.cell? ⟨w.heap.size, 3, none⟩ = some (.int .i64 n) ∧ w'.cell? ⟨w4.heap.size, 0, none⟩ = some (.int .i64 r) ∧ w'.cell? ⟨w4.heap.size, 1, none⟩ = some (.int .i64 s) ∧ w'.cell? ⟨w4.heap.size, 2, none⟩ = some (.slice xa xs.length xc) ∧ w'.cell? ⟨w4.heap.size, 3, none⟩ = some (.int .i64 n) ∧ Gr w6 w' none)
    (first | exact heldY (by assumption) (by assumption) | exact heldY HA.out (gr_drew (gr_refl _ _)) | exact HA.out)
    (first
      | (go_at_call 19; refine (toYear_any _ _ _ _ (V6.out.on (gr_drew (gr_refl _ _))) hl).mono ?_; rintro e w' ⟨u7, rfl, i7, g7⟩)
      | (go_at_call 21; refine (eqYear_same _ _ _ _ (X6.out.ints.on (gr_then (gr_drew (gr_refl _ _)) g7)) i7.ints).mono ?_; rintro e w' ⟨rfl, g8'⟩))
  have hh : w'.cell? ⟨w.heap.size, 0, none⟩ = some (.int .i64 r) ∧ w'.cell? ⟨w.heap.size, 1, none⟩ = some (.int .i64 s) ∧ w'.cell? ⟨w.heap.size, 2, none⟩ = some (.slice a xs.length cap) ∧ w'.cell? ⟨w.heap.size, 3, none⟩ = some (.int .i64 n) ∧ w'.cell? ⟨w4.heap.size, 0, none⟩ = some (.int .i64 r) ∧ w'.cell? ⟨w4.heap.size, 1, none⟩ = some (.int .i64 s) ∧ w'.cell? ⟨w4.heap.size, 2, none⟩ = some (.slice xa xs.length xc) ∧ w'.cell? ⟨w4.heap.size, 3, none⟩ = some (.int .i64 n) ∧ Gr w6 w' none := by assumption
  have g8 := hh.2.2.2.2.2.2.2.2
  have G8 := hid (gr_then G6.out g8)
  have z8 := gr_le g8
  have A8 := hid (A6.out.on (g8))
  have W8 := hid (W6.out.on (g8))
  have B8 := hid (B6.out.on (g8))
  have C8 := hid (C6.out.on (g8))
  have S8 := hid (S6.out.on (g8))
  have X8 := hid (X6.out.on (g8))
  have R8 := hid (R6.out.on (g8))
  clear A6 W6 B6 C6 S6 X6 R6
  clear hh i7 g7 g8' g8 G6 HA V6
  obtain ⟨pB0, pB1, pB2, pB3, lB⟩ := B8.out
  go_wp2_with fail
  refine (markYear_any _ _ _ _ X8.out hl _ (by omega) (by omega)).mono ?_
  rintro e w9 ⟨rfl, x9, m9⟩
  clear pB0 pB1 pB2 pB3 lB
  have zm := gr_le m9
  have A9 := hid (A8.out.kept m9 (ne_of XB.out (by omega)))
  have W9 := hid (W8.out.kept m9 (ne_of XB.out (by omega)))
  have C9 := hid (C8.out.kept m9 (ne_of XB.out (by omega)))
  have S9 := hid (S8.out.kept m9 (ne_rows SB.out XB.out (by omega)))
  have R9 := hid (R8.out.kept m9 (ne_rows RB.out XB.out (by omega)))
  have G9 := hid (gr_row G8.out m9 (fun j e => by have := XB.out j e; omega))
  clear A8 W8 B8 C8 S8 X8 R8 x9 m9 G8
  obtain ⟨pC0, pC1, pC2, pC3, lC⟩ := C9.out
  obtain ⟨pW0, pW1, pW2, pW3, lW⟩ := W9.out
  go_wp2_with fail
  refine (eqYear_same _ _ _ _ R9.out.ints S9.out.ints).mono ?_
  rintro e w10 ⟨rfl, g10⟩
  clear pC0 pC1 pC2 pC3 lC pW0 pW1 pW2 pW3 lW
  have z10 := gr_le g10
  have G10 := hid (gr_then G9.out g10)
  have A10 := hid (A9.out.on (g10))
  have W10 := hid (W9.out.on (g10))
  have C10 := hid (C9.out.on (g10))
  have S10 := hid (S9.out.on (g10))
  have R10 := hid (R9.out.on (g10))
  clear A9 W9 C9 S9 R9
  clear g10 G9
  obtain ⟨pC0, pC1, pC2, pC3, lC⟩ := C10.out
  go_wp2_with fail
  refine (markYear_any _ _ _ _ R10.out hl _ (by omega) (by omega)).mono ?_
  rintro e w11 ⟨rfl, r11, m11⟩
  clear pC0 pC1 pC2 pC3 lC
  have zn := gr_le m11
  have A11 := hid (A10.out.kept m11 (ne_of RB.out (by omega)))
  have W11 := hid (W10.out.kept m11 (ne_of RB.out (by omega)))
  have C11 := hid (C10.out.kept m11 (ne_of RB.out (by omega)))
  have S11 := hid (S10.out.kept m11 (ne_rows SB.out RB.out (by omega)))
  have R11 := hid r11
  have G11 := hid (gr_row G10.out m11 (fun j e => by have := RB.out j e; omega))
  clear A10 W10 C10 S10 R10 r11 m11 G10
  obtain ⟨pC0, pC1, pC2, pC3, lC⟩ := C11.out
  go_wp2_with fail
  refine (heldYear_any xs.length _ _ _ _ _ R11.out.ints hl (by omega) (by omega)).mono ?_
  rintro e w12 ⟨rfl, g12⟩
  clear pC0 pC1 pC2 pC3 lC
  have z12 := gr_le g12
  have G12 := hid (gr_then G11.out g12)
  have A12 := hid (A11.out.on (g12))
  have W12 := hid (W11.out.on (g12))
  have C12 := hid (C11.out.on (g12))
  have S12 := hid (S11.out.on (g12))
  have R12 := hid (R11.out.on (g12))
  clear A11 W11 C11 S11 R11
  clear g12 G11
  obtain ⟨pA0, pA1, pA2, pA3, lA⟩ := A12.out
  go_wp2_with fail
  refine (toYear_any _ _ _ _ (HV.out.on G12.out) hl).mono ?_
  rintro e w13 ⟨u13, rfl, i13, g13⟩
  clear pA0 pA1 pA2 pA3 lA
  have G13 := hid (gr_then G12.out g13)
  have z13 := gr_le g13
  have W13 := hid (W12.out.on (g13))
  have C13 := hid (C12.out.on (g13))
  have S13 := hid (S12.out.on (g13))
  have R13 := hid (R12.out.on (g13))
  clear W12 C12 S12 R12
  have P13 := hid i13.ints
  clear g13 G12 A12 i13
  go_wp2_with fail
  refine (withRoom_any _ _ _ _ _ P13.out hl).mono ?_
  rw [HR'.out, HS'.out]
  rintro e w14 ⟨h14, rfl, hi, g14⟩
  obtain ⟨ha, hc, rfl⟩ := sl_own hi.2
  have H14 := hid hi
  have G14 := hid (gr_then G13.out g14)
  have z14 := gr_le g14
  have W14 := hid (W13.out.on (g14))
  have C14 := hid (C13.out.on (g14))
  have S14 := hid (S13.out.on (g14))
  have R14 := hid (R13.out.on (g14))
  clear W13 C13 S13 R13
  clear g14 G13 P13 hi
  obtain ⟨pW0, pW1, pW2, pW3, lW⟩ := W14.out
  go_wp2_with fail
  refine (eqYear_same _ _ _ _ (H14.out.ints.on (by repeat (first | (with_reducible exact gr_refl _ _) | (with_reducible assumption) | (with_reducible refine gr_drew ?_) | (with_reducible refine gr_drewN ?_ _) | (with_reducible refine gr_alloc ?_ _) | (with_reducible refine gr_set ?_ (.inr (by simp; done)) _) | (with_reducible refine gr_set ?_ (.inr (by simp; omega)) _) | (with_reducible refine gr_then ?_ (by with_reducible assumption))))) (S14.out.ints.on (by repeat (first | (with_reducible exact gr_refl _ _) | (with_reducible assumption) | (with_reducible refine gr_drew ?_) | (with_reducible refine gr_drewN ?_ _) | (with_reducible refine gr_alloc ?_ _) | (with_reducible refine gr_set ?_ (.inr (by simp; done)) _) | (with_reducible refine gr_set ?_ (.inr (by simp; omega)) _) | (with_reducible refine gr_then ?_ (by with_reducible assumption)))))).mono ?_
  rintro e w15 ⟨rfl, g15⟩
  clear pW0 pW1 pW2 pW3 lW
  have g1415 := gr_then (gr_alloc (gr_refl w14 none) _) g15
  have G15 := hid (gr_then G14.out g1415)
  have C15 := hid (C14.out.on (g1415))
  have R15 := hid (R14.out.on (g1415))
  clear C14 R14
  clear g15 g1415 G14 W14 S14 H14
  obtain ⟨pC0, pC1, pC2, pC3, lC⟩ := C15.out
  go_wp2_with fail
  refine (heldYear_any xs.length _ _ _ _ _ R15.out.ints hl (by omega) (by omega)).mono ?_
  rintro e w16 ⟨rfl, g16⟩
  go_wp2
  go_ret
  exact ⟨rfl, gr_then G15.out g16⟩
end Go.Proofs.Ytmnfainepmnpeaa
