/- The law over pouring into a chain, walked. -/
import Derived.Test.YtbbacodhklanjaaPin4
import Derived.Test.YtbbacodhklanjaaMark
namespace Go.Proofs.Ytbbacodhklanjaa
open Go.RowKit

/-- Block B is a box that holds the two words. -/
def ChBox (w : World) (B : Nat) (u v : Value) : Prop := w.cell? ⟨B, 0, none⟩ = some u ∧ w.cell? ⟨B, 1, none⟩ = some v ∧ B < w.heap.size
theorem ChBox.kept {a b : World} {r : Option Nat} {B : Nat} {u v : Value} (h : ChBox a B u v) (hg : Gr a b r) (hr : r ≠ some B) : ChBox b B u v :=
  ⟨World.grownBy.cell hg h.1 (Ne.symm hr), World.grownBy.cell hg h.2.1 (Ne.symm hr), Nat.lt_of_lt_of_le h.2.2 (gr_le hg)⟩
theorem ChBox.on {a b : World} {B : Nat} {u v : Value} (h : ChBox a B u v) (hg : Gr a b none) : ChBox b B u v := h.kept hg (by simp)
theorem chBox_new (w : World) (T : TypeId) (u v : Value) : ChBox (w.alloc (.cells #[u, v] T)) w.heap.size u v := ⟨by simp [go_sem], by simp [go_sem], by simp⟩
theorem ne_of {r : Option Nat} {B lo hi : Nat} (h : ∀ j, r = some j → lo ≤ j ∧ j < hi) (hB : B < lo ∨ hi ≤ B) : r ≠ some B := fun e => by have := h B e; omega
theorem ne_rows {r s : Option Nat} {lo hi lo' hi' : Nat} (h : ∀ j, r = some j → lo ≤ j ∧ j < hi) (h' : ∀ j, s = some j → lo' ≤ j ∧ j < hi') (hd : hi ≤ lo' ∨ hi' ≤ lo) : r = none ∨ r ≠ s := by
  cases r with
  | none => exact .inl rfl
  | some k =>
    right; intro e
    have h1 := h k rfl
    have h2 := h' k e.symm
    omega
theorem bnd {w : World} {B s n hi : Nat} {E : TypeId} {v : Value} {xs : List Value} (h : w.ownsRow B E s v n xs) (hh : w.heap.size ≤ hi) : ∀ j, v.ownBlock = some j → B ≤ j ∧ j < hi := fun j hj => ⟨(h.lt j hj).1, Nat.lt_of_lt_of_le (h.lt j hj).2 hh⟩
theorem pinV_length (ps : List (Int × Int)) (xs : List Int) (k x : Int) : (pinV ps xs k x).1.length = ps.length := by
  unfold pinV; split
  · exact pinTo_length _ _ _ _
  · rfl
theorem held5 {w a b : World} {p q r s : Addr} {x y z u : Value} (h : a.cell? p = some x ∧ a.cell? q = some y ∧ a.cell? r = some z ∧ a.cell? s = some u ∧ Gr w a none) (hg : Gr a b none) :
    b.cell? p = some x ∧ b.cell? q = some y ∧ b.cell? r = some z ∧ b.cell? s = some u ∧ Gr w b none :=
  ⟨World.grownBy.cell hg h.1 (by simp), World.grownBy.cell hg h.2.1 (by simp), World.grownBy.cell hg h.2.2.1 (by simp), World.grownBy.cell hg h.2.2.2.1 (by simp), gr_then h.2.2.2.2 hg⟩
set_option maxHeartbeats 4000000 in
theorem walk_FnExactPourInto (u v : Value) (ps : List (Int × Int)) (xs : List Int) (k x : Int) (w : World) (hu : Pairs w u ps) (hv : Ints w v xs) (_ : I64 k) (_ : I64 x) :
    Calls Try.prog 12 #[.agg #[u, v], .int .i64 k, .int .i64 x] w fun e w' => e = .returned (.bool true) ∧ Gr w w' none := by
  have HU := hid hu
  have HV := hid hv
  obtain ⟨_, a, cap, rfl, _, _, hat⟩ := hu
  obtain ⟨_, a', cap', rfl, _, _, hat'⟩ := hv
  clear hat hat'
  have hql := pinV_length ps xs k x
  generalize hR : pinV ps xs k x = R at hql
  have HR := hid hR
  obtain ⟨Q, N⟩ := R
  have HQL := hid hql
  clear hR hql
  go_enter Try.func12, Try.ntmps12
  go_wp2_with fail
  refine (szChain_any _ (HU.out.on (by repeat (first | (with_reducible exact gr_refl _ _) | (with_reducible assumption) | (with_reducible refine gr_drew ?_) | (with_reducible refine gr_drewN ?_ _) | (with_reducible refine gr_alloc ?_ _) | (with_reducible refine gr_set ?_ (.inr (by simp; done)) _) | (with_reducible refine gr_set ?_ (.inr (by simp; omega)) _) | (with_reducible refine gr_then ?_ (by with_reducible assumption))))) (HV.out.on (by repeat (first | (with_reducible exact gr_refl _ _) | (with_reducible assumption) | (with_reducible refine gr_drew ?_) | (with_reducible refine gr_drewN ?_ _) | (with_reducible refine gr_alloc ?_ _) | (with_reducible refine gr_set ?_ (.inr (by simp; done)) _) | (with_reducible refine gr_set ?_ (.inr (by simp; omega)) _) | (with_reducible refine gr_then ?_ (by with_reducible assumption)))))).mono ?_
  rintro e w1 ⟨s, rfl, hs, g1⟩
  have G1 := hid (show Gr w w1 none from gr_then (by repeat (first | (with_reducible exact gr_refl _ _) | (with_reducible assumption) | (with_reducible refine gr_drew ?_) | (with_reducible refine gr_drewN ?_ _) | (with_reducible refine gr_alloc ?_ _) | (with_reducible refine gr_set ?_ (.inr (by simp; done)) _) | (with_reducible refine gr_set ?_ (.inr (by simp; omega)) _) | (with_reducible refine gr_then ?_ (by with_reducible assumption)))) g1)
  rcases hs with hs | ⟨hs, hl1, hl2⟩
  · clear g1
    go_wp2
    go_ret
    exact ⟨rfl, G1.out⟩
  have hlq : Q.length ≤ 1048576 := by have := HQL.out; omega
  have A1 := hid ((chBox_new w _ _ _).on g1)
  have z1 := gr_le g1
  simp only [World.size_alloc] at z1
  clear g1
  obtain ⟨cA0, cA1, lA⟩ := A1.out
  go_wp2_with fail
  refine (toChain_any _ (HU.out.on G1.out) (HV.out.on G1.out) hl1 hl2).mono ?_
  rintro e w2 ⟨u2, v2, rfl, p2, i2, g2⟩
  clear cA0 cA1 lA
  have P2 := hid (And.intro p2 i2)
  have z2 := gr_le g2
  have G2 := hid (gr_then G1.out g2)
  have A2 := hid (A1.out.on (g2))
  clear A1
  clear p2 i2 g2 G1
  go_wp2_with fail
  refine (sPourInto_any _ _ _ P2.out.1.pairs P2.out.2.ints hl1 hl2).mono ?_
  rw [HR.out]
  rintro e w3 ⟨s3, t3, rfl, ws, wt, g3⟩
  obtain ⟨sa, sc, rfl⟩ := sl_own ws.2
  obtain ⟨ta, tc, rfl⟩ := sl_own wt.2
  have S3 := hid ws
  have T3 := hid wt
  have SB := hid (And.intro (bnd ws.2 (Nat.le_refl _)) (bnd wt.2 (Nat.le_refl _)))
  have z3 := gr_le g3
  have G3 := hid (gr_then G2.out g3)
  have A3 := hid (A2.out.on (g3))
  clear A2
  clear ws wt g3 G2 P2
  obtain ⟨cA0, cA1, lA⟩ := A3.out
  go_wp2_with fail
  refine (toChain_any _ (HU.out.on (gr_alloc G3.out _)) (HV.out.on (gr_alloc G3.out _)) hl1 hl2).mono ?_
  rintro e w4 ⟨u4, v4, rfl, xp, xi, g4⟩
  clear cA0 cA1 lA
  obtain ⟨xa, xc, rfl⟩ := sl_own xp.2
  obtain ⟨ya, yc, rfl⟩ := sl_own xi.2
  have z4 := gr_le g4
  simp only [World.size_alloc] at z4 xp xi
  have X4 := hid xp
  have Y4 := hid xi
  have XB := hid (And.intro (bnd xp.2 (Nat.le_refl _)) (bnd xi.2 (Nat.le_refl _)))
  have g34 := gr_then (gr_alloc (gr_refl w3 none) _) g4
  have W4 := hid ((chBox_new w3 52 (.slice sa Q.length sc) (.slice ta xs.length tc)).on g4)
  have G4 := hid (gr_then G3.out g34)
  have A4 := hid (A3.out.on (g34))
  have S4 := hid (S3.out.on (g34))
  have T4 := hid (T3.out.on (g34))
  clear A3 S3 T3
  clear xp xi g4 g34 G3
  go_wp2_with fail
  refine (pourInto_any _ _ _ (X4.out.pairs.on (by repeat (first | (with_reducible exact gr_refl _ _) | (with_reducible assumption) | (with_reducible refine gr_drew ?_) | (with_reducible refine gr_drewN ?_ _) | (with_reducible refine gr_alloc ?_ _) | (with_reducible refine gr_set ?_ (.inr (by simp; done)) _) | (with_reducible refine gr_set ?_ (.inr (by simp; omega)) _) | (with_reducible refine gr_then ?_ (by with_reducible assumption))))) (Y4.out.ints.on (by repeat (first | (with_reducible exact gr_refl _ _) | (with_reducible assumption) | (with_reducible refine gr_drew ?_) | (with_reducible refine gr_drewN ?_ _) | (with_reducible refine gr_alloc ?_ _) | (with_reducible refine gr_set ?_ (.inr (by simp; done)) _) | (with_reducible refine gr_set ?_ (.inr (by simp; omega)) _) | (with_reducible refine gr_then ?_ (by with_reducible assumption))))) hl1 hl2).mono ?_
  rw [HR.out]
  rintro e w5 ⟨r5, q5, rfl, gp, gi', g5⟩
  obtain ⟨ra, rc, rfl⟩ := sl_own gp.2
  obtain ⟨qa, qc, rfl⟩ := sl_own gi'.2
  have z5 := gr_le g5
  simp only [World.size_alloc] at z5 gp gi'
  have R5 := hid gp
  have Q5 := hid gi'
  have RB := hid (And.intro (bnd gp.2 (Nat.le_refl _)) (bnd gi'.2 (Nat.le_refl _)))
  have g45 := gr_then (gr_alloc (gr_refl w4 none) _) g5
  have B5 := hid ((chBox_new w4 52 (.slice xa ps.length xc) (.slice ya xs.length yc)).on g5)
  have G5 := hid (gr_then G4.out g45)
  have A5 := hid (A4.out.on (g45))
  have W5 := hid (W4.out.on (g45))
  have S5 := hid (S4.out.on (g45))
  have T5 := hid (T4.out.on (g45))
  have X5 := hid (X4.out.on (g45))
  have Y5 := hid (Y4.out.on (g45))
  clear A4 W4 S4 T4 X4 Y4
  clear gp gi' g5 g45 G4
  obtain ⟨cW0, cW1, lW⟩ := W5.out
  go_wp2_with fail
  refine (eqChain_any _ (R5.out.pairs.on (by repeat (first | (with_reducible exact gr_refl _ _) | (with_reducible assumption) | (with_reducible refine gr_drew ?_) | (with_reducible refine gr_drewN ?_ _) | (with_reducible refine gr_alloc ?_ _) | (with_reducible refine gr_set ?_ (.inr (by simp; done)) _) | (with_reducible refine gr_set ?_ (.inr (by simp; omega)) _) | (with_reducible refine gr_then ?_ (by with_reducible assumption))))) (Q5.out.ints.on (by repeat (first | (with_reducible exact gr_refl _ _) | (with_reducible assumption) | (with_reducible refine gr_drew ?_) | (with_reducible refine gr_drewN ?_ _) | (with_reducible refine gr_alloc ?_ _) | (with_reducible refine gr_set ?_ (.inr (by simp; done)) _) | (with_reducible refine gr_set ?_ (.inr (by simp; omega)) _) | (with_reducible refine gr_then ?_ (by with_reducible assumption))))) (S5.out.pairs.on (by repeat (first | (with_reducible exact gr_refl _ _) | (with_reducible assumption) | (with_reducible refine gr_drew ?_) | (with_reducible refine gr_drewN ?_ _) | (with_reducible refine gr_alloc ?_ _) | (with_reducible refine gr_set ?_ (.inr (by simp; done)) _) | (with_reducible refine gr_set ?_ (.inr (by simp; omega)) _) | (with_reducible refine gr_then ?_ (by with_reducible assumption))))) (T5.out.ints.on (by repeat (first | (with_reducible exact gr_refl _ _) | (with_reducible assumption) | (with_reducible refine gr_drew ?_) | (with_reducible refine gr_drewN ?_ _) | (with_reducible refine gr_alloc ?_ _) | (with_reducible refine gr_set ?_ (.inr (by simp; done)) _) | (with_reducible refine gr_set ?_ (.inr (by simp; omega)) _) | (with_reducible refine gr_then ?_ (by with_reducible assumption)))))).mono ?_
  simp only [decide_true, Bool.and_true]
  rintro e w6 ⟨rfl, g6⟩
  clear cW0 cW1 lW
  have g56 := gr_then (gr_alloc (gr_refl w5 none) _) g6
  have z6 := gr_le g6
  simp only [World.size_alloc] at z6
  have C6 := hid ((chBox_new w5 52 (.slice ra Q.length rc) (.slice qa xs.length qc)).on g6)
  have G6 := hid (gr_then G5.out g56)
  have A6 := hid (A5.out.on (g56))
  have W6 := hid (W5.out.on (g56))
  have B6 := hid (B5.out.on (g56))
  have S6 := hid (S5.out.on (g56))
  have T6 := hid (T5.out.on (g56))
  have X6 := hid (X5.out.on (g56))
  have Y6 := hid (Y5.out.on (g56))
  have R6 := hid (R5.out.on (g56))
  have Q6 := hid (Q5.out.on (g56))
  clear A5 W5 B5 S5 T5 X5 Y5 R5 Q5
  have U6 := hid (HU.out.on G6.out)
  have V6 := hid (HV.out.on G6.out)
  clear g6 g56 G5
  obtain ⟨cA0, cA1, lA⟩ := A6.out
  obtain ⟨cB0, cB1, lB⟩ := B6.out
  have HA := hid (And.intro cA0 (And.intro cA1 (And.intro cB0 (And.intro cB1 (gr_refl w6 none)))))
  clear cA0 cA1 lA cB0 cB1 lB
  go_wp2_with fail
  go_region_held3 (fun w' => w'.cell? ⟨w.heap.size, 0, none⟩ = some (.slice a ps.length cap) ∧ w'.cell? ⟨w.heap.size, 1, none⟩ = some (.slice a' xs.length cap') ∧ w'.cell? ⟨w4.heap.size, 0, none⟩ = some (.slice xa ps.length xc) ∧ w'.cell? ⟨w4.heap.size, 1, none⟩ = some (.slice ya xs.length yc) ∧ Gr w6 w' none)
    (first | exact held5 (by assumption) (by assumption) | exact held5 HA.out (gr_drew (gr_refl _ _)) | exact HA.out)
    (first
      | (go_at_call 42; refine (toChain_any _ (U6.out.on (gr_drew (gr_refl _ _))) (V6.out.on (gr_drew (gr_refl _ _))) hl1 hl2).mono ?_; rintro e w' ⟨u7, v7, rfl, p7, i7, g7⟩)
      | (go_at_call 44; refine (eqChain_any _ (X6.out.pairs.on (gr_then (gr_drew (gr_refl _ _)) g7)) (Y6.out.ints.on (gr_then (gr_drew (gr_refl _ _)) g7)) p7.pairs i7.ints).mono ?_; simp only [decide_true, Bool.and_true]; rintro e w' ⟨rfl, g8'⟩))
  have hh : w'.cell? ⟨w.heap.size, 0, none⟩ = some (.slice a ps.length cap) ∧ w'.cell? ⟨w.heap.size, 1, none⟩ = some (.slice a' xs.length cap') ∧ w'.cell? ⟨w4.heap.size, 0, none⟩ = some (.slice xa ps.length xc) ∧ w'.cell? ⟨w4.heap.size, 1, none⟩ = some (.slice ya xs.length yc) ∧ Gr w6 w' none := by assumption
  have g8 := hh.2.2.2.2
  have G8 := hid (gr_then G6.out g8)
  have z8 := gr_le g8
  have A8 := hid (A6.out.on (g8))
  have W8 := hid (W6.out.on (g8))
  have B8 := hid (B6.out.on (g8))
  have C8 := hid (C6.out.on (g8))
  have S8 := hid (S6.out.on (g8))
  have T8 := hid (T6.out.on (g8))
  have X8 := hid (X6.out.on (g8))
  have Y8 := hid (Y6.out.on (g8))
  have R8 := hid (R6.out.on (g8))
  have Q8 := hid (Q6.out.on (g8))
  clear A6 W6 B6 C6 S6 T6 X6 Y6 R6 Q6
  clear hh p7 i7 g7 g8' g8 G6 HA U6 V6
  obtain ⟨cB0, cB1, lB⟩ := B8.out
  go_wp2_with fail
  refine (markChain_any (B := w3.heap.size + 1) _ X8.out Y8.out hl1 hl2 (apart_types X8.out.2 Y8.out.2 (by decide)) _ (by omega) (by omega)).mono ?_
  rintro e w9 ⟨rfl, x9, y9, wm, m1, m2⟩
  clear cB0 cB1 lB
  have zm := gr_le m1
  have zm2 := gr_le m2
  have A9 := hid ((A8.out.kept m1 (ne_of XB.out.1 (by omega))).kept m2 (ne_of XB.out.2 (by omega)))
  have W9 := hid ((W8.out.kept m1 (ne_of XB.out.1 (by omega))).kept m2 (ne_of XB.out.2 (by omega)))
  have C9 := hid ((C8.out.kept m1 (ne_of XB.out.1 (by omega))).kept m2 (ne_of XB.out.2 (by omega)))
  have S9 := hid ((S8.out.kept m1 (ne_rows SB.out.1 XB.out.1 (by omega))).kept m2 (ne_rows SB.out.1 XB.out.2 (by omega)))
  have T9 := hid ((T8.out.kept m1 (ne_rows SB.out.2 XB.out.1 (by omega))).kept m2 (ne_rows SB.out.2 XB.out.2 (by omega)))
  have R9 := hid ((R8.out.kept m1 (ne_rows RB.out.1 XB.out.1 (by omega))).kept m2 (ne_rows RB.out.1 XB.out.2 (by omega)))
  have Q9 := hid ((Q8.out.kept m1 (ne_rows RB.out.2 XB.out.1 (by omega))).kept m2 (ne_rows RB.out.2 XB.out.2 (by omega)))
  have G9 := hid (gr_row (gr_row G8.out m1 (fun j e => by have := XB.out.1 j e; omega)) m2 (fun j e => by have := XB.out.2 j e; omega))
  clear A8 W8 B8 C8 S8 T8 X8 Y8 R8 Q8 x9 y9 m1 m2 G8
  obtain ⟨cC0, cC1, lC⟩ := C9.out
  obtain ⟨cW0, cW1, lW⟩ := W9.out
  go_wp2_with fail
  refine (eqChain_any _ R9.out.pairs Q9.out.ints S9.out.pairs T9.out.ints).mono ?_
  simp only [decide_true, Bool.and_true]
  rintro e w10 ⟨rfl, g10⟩
  clear cC0 cC1 lC cW0 cW1 lW
  have z10 := gr_le g10
  have G10 := hid (gr_then G9.out g10)
  have A10 := hid (A9.out.on (g10))
  have W10 := hid (W9.out.on (g10))
  have C10 := hid (C9.out.on (g10))
  have S10 := hid (S9.out.on (g10))
  have T10 := hid (T9.out.on (g10))
  have R10 := hid (R9.out.on (g10))
  have Q10 := hid (Q9.out.on (g10))
  clear A9 W9 C9 S9 T9 R9 Q9
  clear g10 G9
  obtain ⟨cC0, cC1, lC⟩ := C10.out
  go_wp2_with fail
  refine (markChain_any (B := w4.heap.size + 1) _ R10.out Q10.out hlq hl2 (apart_types R10.out.2 Q10.out.2 (by decide)) _ (by omega) (by omega)).mono ?_
  rintro e w11 ⟨rfl, r11, q11, wn, n1, n2⟩
  clear cC0 cC1 lC
  have zn := gr_le n1
  have zn2 := gr_le n2
  have A11 := hid ((A10.out.kept n1 (ne_of RB.out.1 (by omega))).kept n2 (ne_of RB.out.2 (by omega)))
  have W11 := hid ((W10.out.kept n1 (ne_of RB.out.1 (by omega))).kept n2 (ne_of RB.out.2 (by omega)))
  have C11 := hid ((C10.out.kept n1 (ne_of RB.out.1 (by omega))).kept n2 (ne_of RB.out.2 (by omega)))
  have S11 := hid ((S10.out.kept n1 (ne_rows SB.out.1 RB.out.1 (by omega))).kept n2 (ne_rows SB.out.1 RB.out.2 (by omega)))
  have T11 := hid ((T10.out.kept n1 (ne_rows SB.out.2 RB.out.1 (by omega))).kept n2 (ne_rows SB.out.2 RB.out.2 (by omega)))
  have R11 := hid r11
  have Q11 := hid q11
  have G11 := hid (gr_row (gr_row G10.out n1 (fun j e => by have := RB.out.1 j e; omega)) n2 (fun j e => by have := RB.out.2 j e; omega))
  clear A10 W10 C10 S10 T10 R10 Q10 r11 q11 n1 n2 G10
  obtain ⟨cC0, cC1, lC⟩ := C11.out
  go_wp2_with fail
  refine (heldChain_any Q.length xs.length _ _ R11.out.pairs Q11.out.ints hlq hl2 (by omega) (by omega)).mono ?_
  rintro e w12 ⟨rfl, g12⟩
  clear cC0 cC1 lC
  have z12 := gr_le g12
  have G12 := hid (gr_then G11.out g12)
  have A12 := hid (A11.out.on (g12))
  have W12 := hid (W11.out.on (g12))
  have C12 := hid (C11.out.on (g12))
  have S12 := hid (S11.out.on (g12))
  have T12 := hid (T11.out.on (g12))
  have R12 := hid (R11.out.on (g12))
  have Q12 := hid (Q11.out.on (g12))
  clear A11 W11 C11 S11 T11 R11 Q11
  clear g12 G11
  obtain ⟨cA0, cA1, lA⟩ := A12.out
  go_wp2_with fail
  refine (toChain_any _ (HU.out.on G12.out) (HV.out.on G12.out) hl1 hl2).mono ?_
  rintro e w13 ⟨u13, v13, rfl, p13, i13, g13⟩
  clear cA0 cA1 lA
  have G13 := hid (gr_then G12.out g13)
  have z13 := gr_le g13
  have W13 := hid (W12.out.on (g13))
  have C13 := hid (C12.out.on (g13))
  have S13 := hid (S12.out.on (g13))
  have T13 := hid (T12.out.on (g13))
  have R13 := hid (R12.out.on (g13))
  have Q13 := hid (Q12.out.on (g13))
  clear W12 C12 S12 T12 R12 Q12
  have P13 := hid (And.intro p13 i13)
  clear g13 G12 A12 p13 i13
  go_wp2_with fail
  refine (pourInto_any _ _ _ P13.out.1.pairs P13.out.2.ints hl1 hl2).mono ?_
  rw [HR.out]
  rintro e w14 ⟨h14, k14, rfl, hp, hi, g14⟩
  obtain ⟨ha, hc, rfl⟩ := sl_own hp.2
  obtain ⟨ka, kc, rfl⟩ := sl_own hi.2
  have H14 := hid hp
  have K14 := hid hi
  have G14 := hid (gr_then G13.out g14)
  have z14 := gr_le g14
  have W14 := hid (W13.out.on (g14))
  have C14 := hid (C13.out.on (g14))
  have S14 := hid (S13.out.on (g14))
  have T14 := hid (T13.out.on (g14))
  have R14 := hid (R13.out.on (g14))
  have Q14 := hid (Q13.out.on (g14))
  clear W13 C13 S13 T13 R13 Q13
  clear g14 G13 P13 hp hi
  obtain ⟨cW0, cW1, lW⟩ := W14.out
  go_wp2_with fail
  refine (eqChain_any _ (H14.out.pairs.on (by repeat (first | (with_reducible exact gr_refl _ _) | (with_reducible assumption) | (with_reducible refine gr_drew ?_) | (with_reducible refine gr_drewN ?_ _) | (with_reducible refine gr_alloc ?_ _) | (with_reducible refine gr_set ?_ (.inr (by simp; done)) _) | (with_reducible refine gr_set ?_ (.inr (by simp; omega)) _) | (with_reducible refine gr_then ?_ (by with_reducible assumption))))) (K14.out.ints.on (by repeat (first | (with_reducible exact gr_refl _ _) | (with_reducible assumption) | (with_reducible refine gr_drew ?_) | (with_reducible refine gr_drewN ?_ _) | (with_reducible refine gr_alloc ?_ _) | (with_reducible refine gr_set ?_ (.inr (by simp; done)) _) | (with_reducible refine gr_set ?_ (.inr (by simp; omega)) _) | (with_reducible refine gr_then ?_ (by with_reducible assumption))))) (S14.out.pairs.on (by repeat (first | (with_reducible exact gr_refl _ _) | (with_reducible assumption) | (with_reducible refine gr_drew ?_) | (with_reducible refine gr_drewN ?_ _) | (with_reducible refine gr_alloc ?_ _) | (with_reducible refine gr_set ?_ (.inr (by simp; done)) _) | (with_reducible refine gr_set ?_ (.inr (by simp; omega)) _) | (with_reducible refine gr_then ?_ (by with_reducible assumption))))) (T14.out.ints.on (by repeat (first | (with_reducible exact gr_refl _ _) | (with_reducible assumption) | (with_reducible refine gr_drew ?_) | (with_reducible refine gr_drewN ?_ _) | (with_reducible refine gr_alloc ?_ _) | (with_reducible refine gr_set ?_ (.inr (by simp; done)) _) | (with_reducible refine gr_set ?_ (.inr (by simp; omega)) _) | (with_reducible refine gr_then ?_ (by with_reducible assumption)))))).mono ?_
  simp only [decide_true, Bool.and_true]
  rintro e w15 ⟨rfl, g15⟩
  clear cW0 cW1 lW
  have g1415 := gr_then (gr_alloc (gr_refl w14 none) _) g15
  have G15 := hid (gr_then G14.out g1415)
  have C15 := hid (C14.out.on (g1415))
  have R15 := hid (R14.out.on (g1415))
  have Q15 := hid (Q14.out.on (g1415))
  clear C14 R14 Q14
  clear g15 g1415 G14 W14 S14 T14 H14 K14
  obtain ⟨cC0, cC1, lC⟩ := C15.out
  go_wp2_with fail
  refine (heldChain_any Q.length xs.length _ _ R15.out.pairs Q15.out.ints hlq hl2 (by omega) (by omega)).mono ?_
  rintro e w16 ⟨rfl, g16⟩
  go_wp2
  go_ret
  exact ⟨rfl, gr_then G15.out g16⟩
end Go.Proofs.Ytbbacodhklanjaa
