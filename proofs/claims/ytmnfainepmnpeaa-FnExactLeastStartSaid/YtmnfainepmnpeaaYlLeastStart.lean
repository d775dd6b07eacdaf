/- The law FnExactLeastStart over a year, walked. -/
import Derived.Test.YtmnfainepmnpeaaYearH
import Derived.Test.YtmnfainepmnpeaaYSize2
namespace Go.Proofs.Ytmnfainepmnpeaa
open Go.RowKit

set_option maxHeartbeats 1000000 in
theorem walk_FnExactLeastStart (r s : Int) (v : Value) (n : Int) (xs : List Int) (w : World) (_ : I64 r) (_ : I64 s) (hv : Ints w v xs) (_ : I64 n) :
    Calls Try.prog 15 #[.agg #[.int .i64 r, .int .i64 s, v, .int .i64 n]] w fun e w' => e = .returned (.bool true) ∧ Gr w w' none := by
  have HV := hid hv
  obtain ⟨_, a, cap, rfl, _, _, hat⟩ := hv
  clear hat
  go_enter Try.func15, Try.ntmps15
  go_wp2_with fail
  refine (szYear_any _ _ _ _ (HV.out.on (by repeat (first | (with_reducible exact gr_refl _ _) | (with_reducible assumption) | (with_reducible refine gr_drew ?_) | (with_reducible refine gr_drewN ?_ _) | (with_reducible refine gr_alloc ?_ _) | (with_reducible refine gr_set ?_ (.inr (by simp; done)) _) | (with_reducible refine gr_set ?_ (.inr (by simp; omega)) _) | (with_reducible refine gr_then ?_ (by with_reducible assumption)))))).mono ?_
  rintro e w1 ⟨q, rfl, hs, g1⟩
  have G1 := hid (show Gr w w1 none from gr_then (by repeat (first | (with_reducible exact gr_refl _ _) | (with_reducible assumption) | (with_reducible refine gr_drew ?_) | (with_reducible refine gr_drewN ?_ _) | (with_reducible refine gr_alloc ?_ _) | (with_reducible refine gr_set ?_ (.inr (by simp; done)) _) | (with_reducible refine gr_set ?_ (.inr (by simp; omega)) _) | (with_reducible refine gr_then ?_ (by with_reducible assumption)))) g1)
  rcases hs with hs | ⟨hs, hl⟩
  · clear g1
    go_wp2
    go_ret
    exact ⟨rfl, G1.out⟩
  have A1 := hid ((yBox_new w _ _ _ _ _).on g1)
  clear g1
  obtain ⟨p0, p1, p2, p3, lA⟩ := A1.out
  go_wp2_with fail
  refine (toYear_any _ _ _ _ (HV.out.on G1.out) hl).mono ?_
  rintro e w2 ⟨u2, rfl, i2, g2⟩
  have G2 := hid (gr_then G1.out g2)
  have A2 := hid (A1.out.on g2)
  have I2 := hid i2
  clear p0 p1 p2 p3 lA A1 g2 i2
  go_wp2_with fail
  refine (sLeastStart_any _ _ _ _ I2.out.ints hl).mono ?_
  rintro e w3 ⟨rfl, g3⟩
  have A3 := hid (A2.out.on g3)
  have G3 := hid (gr_then G2.out g3)
  clear A2 I2 G2 g3
  obtain ⟨p0, p1, p2, p3, lA⟩ := A3.out
  go_wp2_with fail
  refine (toYear_any _ _ _ _ (HV.out.on G3.out) hl).mono ?_
  rintro e w4 ⟨u4, rfl, i4, g4⟩
  obtain ⟨xa, xc, rfl⟩ := sl_own i4.2
  have A4 := hid (A3.out.on g4)
  have X4 := hid i4.ints
  have G4 := hid (gr_then G3.out g4)
  clear p0 p1 p2 p3 lA A3 g4 i4
  go_wp2_with fail
  refine (leastStart_any _ _ _ _ (X4.out.on (by repeat (first | (with_reducible exact gr_refl _ _) | (with_reducible assumption) | (with_reducible refine gr_drew ?_) | (with_reducible refine gr_drewN ?_ _) | (with_reducible refine gr_alloc ?_ _) | (with_reducible refine gr_set ?_ (.inr (by simp; done)) _) | (with_reducible refine gr_set ?_ (.inr (by simp; omega)) _) | (with_reducible refine gr_then ?_ (by with_reducible assumption)))))).mono ?_
  rintro e w5 ⟨rfl, g5⟩
  have g45 := gr_then (gr_alloc (gr_refl w4 none) _) g5
  have A5 := hid (A4.out.on g45)
  have B5 := hid ((yBox_new w4 _ _ _ _ _).on g5)
  have X5 := hid (X4.out.on g45)
  have G5 := hid (gr_then G4.out g45)
  have V5 := hid (HV.out.on G5.out)
  obtain ⟨p0, p1, p2, p3, lA⟩ := A5.out
  obtain ⟨q0, q1, q2, q3, lB⟩ := B5.out
  have HA := hid (And.intro p0 (And.intro p1 (And.intro p2 (And.intro p3 (And.intro q0 (And.intro q1 (And.intro q2 (And.intro q3 (gr_refl w5 none)))))))))
  clear p0 p1 p2 p3 lA q0 q1 q2 q3 lB A4 X4 G4 g45 g5
  go_wp2_with fail
  go_region_held3 (fun w' => w'.cell? ⟨w.heap.size, 0, none⟩ = some (.int .i64 r) ∧ w'.cell? ⟨w.heap.size, 1, none⟩ = some (.int .i64 s) ∧ w'.cell? ⟨w.heap.size, 2, none⟩ = some (.slice a xs.length cap) ∧ w'.cell? ⟨w.heap.size, 3, none⟩ = some (.int .i64 n) ∧ w'.cell? ⟨w4.heap.size, 0, none⟩ = some (.int .i64 r) ∧ w'.cell? ⟨w4.heap.size, 1, none⟩ = some (.int .i64 s) ∧ w'.cell? ⟨w4.heap.size, 2, none⟩ = some (.slice xa xs.length xc) ∧ w'.cell? ⟨w4.heap.size, 3, none⟩ = some (.int .i64 n) ∧ Gr w5 w' none)
    (first | exact heldY (by assumption) (by assumption) | exact heldY HA.out (gr_drew (gr_refl _ _)) | exact HA.out)
    (first
      | (go_at_call 19; refine (toYear_any _ _ _ _ (V5.out.on (gr_drew (gr_refl _ _))) hl).mono ?_; rintro e w' ⟨u6, rfl, i6, g6⟩)
      | (go_at_call 21; refine (eqYear_same _ _ _ _ (X5.out.on (gr_then (gr_drew (gr_refl _ _)) g6)) i6.ints).mono ?_; rintro e w' ⟨rfl, g7⟩))
  go_wp2
  go_ret
  exact ⟨rfl, gr_then G5.out (gr_then (gr_then (gr_drew (gr_refl _ _)) g6) g7)⟩
end Go.Proofs.Ytmnfainepmnpeaa
