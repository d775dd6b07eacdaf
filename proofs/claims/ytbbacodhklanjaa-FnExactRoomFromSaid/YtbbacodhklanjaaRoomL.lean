/- The laws over a chain that hand back one word, walked. -/
import Derived.Test.YtbbacodhklanjaaRoom2
namespace Go.Proofs.Ytbbacodhklanjaa
open Go.RowKit

theorem held5 {w a b : World} {p q r s : Addr} {x y z u : Value} (h : a.cell? p = some x ∧ a.cell? q = some y ∧ a.cell? r = some z ∧ a.cell? s = some u ∧ Gr w a none) (hg : Gr a b none) :
    b.cell? p = some x ∧ b.cell? q = some y ∧ b.cell? r = some z ∧ b.cell? s = some u ∧ Gr w b none :=
  ⟨World.grownBy.cell hg h.1 (by simp), World.grownBy.cell hg h.2.1 (by simp), World.grownBy.cell hg h.2.2.1 (by simp), World.grownBy.cell hg h.2.2.2.1 (by simp), gr_then h.2.2.2.2 hg⟩
theorem walk_FnExactRoomFrom (u v : Value) (ps : List (Int × Int)) (xs : List Int) (k : Int) (w : World) (hu : Pairs w u ps) (hv : Ints w v xs) (_ : I64 k) :
    Calls Try.prog 15 #[.agg #[u, v], .int .i64 k] w fun e w' => e = .returned (.bool true) ∧ Gr w w' none := by
  have HU := hid hu
  have HV := hid hv
  obtain ⟨_, a, cap, rfl, _, _, hat⟩ := hu
  obtain ⟨_, a', cap', rfl, _, _, hat'⟩ := hv
  clear hat hat'
  go_enter Try.func15, Try.ntmps15
  go_wp2_with fail
  refine (szChain_any _ (HU.out.on (by repeat (first | (with_reducible exact gr_refl _ _) | (with_reducible assumption) | (with_reducible refine gr_drew ?_) | (with_reducible refine gr_drewN ?_ _) | (with_reducible refine gr_alloc ?_ _) | (with_reducible refine gr_set ?_ (.inr (by simp; done)) _) | (with_reducible refine gr_set ?_ (.inr (by simp; omega)) _) | (with_reducible refine gr_then ?_ (by with_reducible assumption))))) (HV.out.on (by repeat (first | (with_reducible exact gr_refl _ _) | (with_reducible assumption) | (with_reducible refine gr_drew ?_) | (with_reducible refine gr_drewN ?_ _) | (with_reducible refine gr_alloc ?_ _) | (with_reducible refine gr_set ?_ (.inr (by simp; done)) _) | (with_reducible refine gr_set ?_ (.inr (by simp; omega)) _) | (with_reducible refine gr_then ?_ (by with_reducible assumption)))))).mono ?_
  rintro e w1 ⟨s, rfl, hs, g1⟩
  have G1 : Gr w w1 none := gr_then (by repeat (first | (with_reducible exact gr_refl _ _) | (with_reducible assumption) | (with_reducible refine gr_drew ?_) | (with_reducible refine gr_drewN ?_ _) | (with_reducible refine gr_alloc ?_ _) | (with_reducible refine gr_set ?_ (.inr (by simp; done)) _) | (with_reducible refine gr_set ?_ (.inr (by simp; omega)) _) | (with_reducible refine gr_then ?_ (by with_reducible assumption)))) g1
  rcases hs with hs | ⟨hs, hl1, hl2⟩
  · clear g1
    go_wp2
    go_ret
    exact ⟨rfl, G1⟩
  have k10 := (gr_cell g1 w.heap.size 0 (by simp)).trans (by simp [go_sem] : _ = some (Value.slice a ps.length cap))
  have k11 := (gr_cell g1 w.heap.size 1 (by simp)).trans (by simp [go_sem] : _ = some (Value.slice a' xs.length cap'))
  have z1 := gr_le g1
  simp only [World.size_alloc] at z1
  clear g1
  go_wp2_with fail
  refine (toChain_any _ (HU.out.on G1) (HV.out.on G1) hl1 hl2).mono ?_
  rintro e w2 ⟨u2, v2, rfl, p2, i2, g2⟩
  have G2 := gr_then G1 g2
  go_wp2_with fail
  refine (sRoomFrom_any _ _ p2.pairs i2.ints).mono ?_
  rintro e w3 ⟨rfl, g3⟩
  have g13 := gr_then g2 g3
  have k30 := (gr_cell g13 w.heap.size 0 (by omega)).trans k10
  have k31 := (gr_cell g13 w.heap.size 1 (by omega)).trans k11
  have G3 := gr_then G2 g3
  have z3 := gr_le g13
  clear p2 i2 g2 g3 g13 G2 k10 k11
  go_wp2_with fail
  refine (toChain_any _ (HU.out.on G3) (HV.out.on G3) hl1 hl2).mono ?_
  rintro e w4 ⟨u4, v4, rfl, p4, i4, g4⟩
  have k40 := (gr_cell g4 w.heap.size 0 (by omega)).trans k30
  have k41 := (gr_cell g4 w.heap.size 1 (by omega)).trans k31
  have G4 := gr_then G3 g4
  have z4 := gr_le g4
  obtain ⟨a4, c4, rfl⟩ : ∃ a c, u4 = .slice a ps.length c := by obtain ⟨_, a, c, e, _⟩ := p4.pairs; exact ⟨a, c, e⟩
  obtain ⟨b4, d4, rfl⟩ : ∃ a c, v4 = .slice a xs.length c := by obtain ⟨_, a, c, e, _⟩ := i4.ints; exact ⟨a, c, e⟩
  have P4 := hid p4.pairs
  have I4 := hid i4.ints
  clear g4 k30 k31 p4 i4
  go_wp2_with fail
  refine (roomFrom_any _ _ (P4.out.on (by repeat (first | (with_reducible exact gr_refl _ _) | (with_reducible assumption) | (with_reducible refine gr_drew ?_) | (with_reducible refine gr_drewN ?_ _) | (with_reducible refine gr_alloc ?_ _) | (with_reducible refine gr_set ?_ (.inr (by simp; done)) _) | (with_reducible refine gr_set ?_ (.inr (by simp; omega)) _) | (with_reducible refine gr_then ?_ (by with_reducible assumption))))) (I4.out.on (by repeat (first | (with_reducible exact gr_refl _ _) | (with_reducible assumption) | (with_reducible refine gr_drew ?_) | (with_reducible refine gr_drewN ?_ _) | (with_reducible refine gr_alloc ?_ _) | (with_reducible refine gr_set ?_ (.inr (by simp; done)) _) | (with_reducible refine gr_set ?_ (.inr (by simp; omega)) _) | (with_reducible refine gr_then ?_ (by with_reducible assumption)))))).mono ?_
  rintro e w5 ⟨rfl, g5⟩
  have q10 := (gr_cell g5 w.heap.size 0 (by simp; omega)).trans ((World.cell?_alloc_lt _ _ _ (by simp; omega)).trans k40)
  have q11 := (gr_cell g5 w.heap.size 1 (by simp; omega)).trans ((World.cell?_alloc_lt _ _ _ (by simp; omega)).trans k41)
  have q50 := (gr_cell g5 w4.heap.size 0 (by simp)).trans (by simp [go_sem] : _ = some (Value.slice a4 ps.length c4))
  have q51 := (gr_cell g5 w4.heap.size 1 (by simp)).trans (by simp [go_sem] : _ = some (Value.slice b4 xs.length d4))
  have G5 : Gr w w5 none := gr_then (gr_alloc G4 _) g5
  have P5 := hid (P4.out.on (gr_then (gr_alloc (gr_refl w4 none) _) g5))
  have I5 := hid (I4.out.on (gr_then (gr_alloc (gr_refl w4 none) _) g5))
  have U5 := hid (HU.out.on G5)
  have V5 := hid (HV.out.on G5)
  have HA := hid (And.intro q10 (And.intro q11 (And.intro q50 (And.intro q51 (gr_refl w5 none)))))
  have HG5 := hid G5
  clear g5 k40 k41 G1 G3 G4 z1 z3 z4 P4 I4 G5 q10 q11 q50 q51
  go_wp2_with fail
  go_region_held3 (fun w' => w'.cell? ⟨w.heap.size, 0, none⟩ = some (.slice a ps.length cap) ∧ w'.cell? ⟨w.heap.size, 1, none⟩ = some (.slice a' xs.length cap') ∧ w'.cell? ⟨w4.heap.size, 0, none⟩ = some (.slice a4 ps.length c4) ∧ w'.cell? ⟨w4.heap.size, 1, none⟩ = some (.slice b4 xs.length d4) ∧ Gr w5 w' none)
    (first | exact held5 (by assumption) (by assumption) | exact held5 HA.out (gr_drew (gr_refl _ _)) | exact HA.out)
    (first
      | (go_at_call 42; refine (toChain_any _ (U5.out.on (gr_drew (gr_refl _ _))) (V5.out.on (gr_drew (gr_refl _ _))) hl1 hl2).mono ?_; rintro e w' ⟨u6, v6, rfl, p6, i6, g6⟩)
      | (go_at_call 44; refine (eqChain_any _ (P5.out.on (gr_then (gr_drew (gr_refl _ _)) g6)) (I5.out.on (gr_then (gr_drew (gr_refl _ _)) g6)) p6.pairs i6.ints).mono ?_; simp only [decide_true, Bool.and_true]; rintro e w' ⟨rfl, g7⟩))
  go_wp2
  go_ret
  exact ⟨rfl, gr_then HG5.out (gr_then (gr_then (gr_drew (gr_refl _ _)) g6) g7)⟩
end Go.Proofs.Ytbbacodhklanjaa
