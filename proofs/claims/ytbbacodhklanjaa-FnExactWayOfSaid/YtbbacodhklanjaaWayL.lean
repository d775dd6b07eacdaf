/- The law over the way down a chain, walked. -/
import Derived.Test.YtbbacodhklanjaaWay2
import Derived.Test.YtbbacodhklanjaaRoom
import Derived.Test.YtbbacodhklanjaaMark
import Derived.Test.YtbbacodhklanjaaAppAny
namespace Go.Proofs.Ytbbacodhklanjaa
open Go.RowKit

theorem held5 {w a b : World} {p q r s : Addr} {x y z u : Value} (h : a.cell? p = some x ∧ a.cell? q = some y ∧ a.cell? r = some z ∧ a.cell? s = some u ∧ Gr w a none) (hg : Gr a b none) :
    b.cell? p = some x ∧ b.cell? q = some y ∧ b.cell? r = some z ∧ b.cell? s = some u ∧ Gr w b none :=
  ⟨World.grownBy.cell hg h.1 (by simp), World.grownBy.cell hg h.2.1 (by simp), World.grownBy.cell hg h.2.2.1 (by simp), World.grownBy.cell hg h.2.2.2.1 (by simp), gr_then h.2.2.2.2 hg⟩
theorem wayV_short (ps : List (Int × Int)) (xs : List Int) (k : Int) : (wayV ps xs k).length ≤ 1048576 := by
  cases hb : chainB ps xs && inB k 0 ((ps.length : Int) - 1)
  · rw [wayV_false hb]; omega
  · have := (wayV_facts hb).2.1; omega
set_option maxHeartbeats 2000000 in
theorem walk_FnExactWayOf (u v : Value) (ps : List (Int × Int)) (xs : List Int) (k : Int) (w : World) (hu : Pairs w u ps) (hv : Ints w v xs) (_ : I64 k) :
    Calls Try.prog 14 #[.agg #[u, v], .int .i64 k] w fun e w' => e = .returned (.bool true) ∧ Gr w w' none := by
  have HU := hid hu
  have HV := hid hv
  obtain ⟨_, a, cap, rfl, _, _, hat⟩ := hu
  obtain ⟨_, a', cap', rfl, _, _, hat'⟩ := hv
  clear hat hat'
  have hys := wayV_short ps xs k
  generalize hY : wayV ps xs k = ys at hys
  have HY := hid hY
  clear hY
  go_enter Try.func14, Try.ntmps14
  go_wp2_with fail
  refine (szChain_any _ (HU.out.on (by repeat (first | (with_reducible exact gr_refl _ _) | (with_reducible assumption) | (with_reducible refine gr_drew ?_) | (with_reducible refine gr_drewN ?_ _) | (with_reducible refine gr_alloc ?_ _) | (with_reducible refine gr_set ?_ (.inr (by simp; done)) _) | (with_reducible refine gr_set ?_ (.inr (by simp; omega)) _) | (with_reducible refine gr_then ?_ (by with_reducible assumption))))) (HV.out.on (by repeat (first | (with_reducible exact gr_refl _ _) | (with_reducible assumption) | (with_reducible refine gr_drew ?_) | (with_reducible refine gr_drewN ?_ _) | (with_reducible refine gr_alloc ?_ _) | (with_reducible refine gr_set ?_ (.inr (by simp; done)) _) | (with_reducible refine gr_set ?_ (.inr (by simp; omega)) _) | (with_reducible refine gr_then ?_ (by with_reducible assumption)))))).mono ?_
  rintro e w1 ⟨s, rfl, hs, g1⟩
  have G1 : Gr w w1 none := gr_then (by repeat (first | (with_reducible exact gr_refl _ _) | (with_reducible assumption) | (with_reducible refine gr_drew ?_) | (with_reducible refine gr_drewN ?_ _) | (with_reducible refine gr_alloc ?_ _) | (with_reducible refine gr_set ?_ (.inr (by simp; done)) _) | (with_reducible refine gr_set ?_ (.inr (by simp; omega)) _) | (with_reducible refine gr_then ?_ (by with_reducible assumption)))) g1
  rcases hs with hs | ⟨hs, hl1, hl2⟩
  · clear g1
    go_wp2
    go_ret
    exact ⟨rfl, G1⟩
  have k10 := (gr_cell g1 w.heap.size 0 (by simp)).trans (by simp [go_sem] : _ = some (Value.slice a ps.length cap))
  have k11 := (gr_cell g1 w.heap.size 1 (by simp)).trans (by simp [go_sem] : _ = some (Value.slice a' xs.length cap'))
  have z1 := gr_le g1
  simp only [World.size_alloc] at z1
  clear g1
  go_wp2_with fail
  refine (toChain_any _ (HU.out.on G1) (HV.out.on G1) hl1 hl2).mono ?_
  rintro e w2 ⟨u2, v2, rfl, p2, i2, g2⟩
  have G2 := gr_then G1 g2
  go_wp2_with fail
  refine (sWayOf_any _ _ p2.pairs i2.ints).mono ?_
  rw [HY.out]
  rintro e w3 ⟨s3, rfl, os, g3⟩
  have g13 := gr_then g2 g3
  have k30 := (gr_cell g13 w.heap.size 0 (by omega)).trans k10
  have k31 := (gr_cell g13 w.heap.size 1 (by omega)).trans k11
  have G3 := gr_then G2 g3
  have z3 := gr_le g13
  have z2 := gr_le G2
  have OS := hid (os.mono z2)
  clear p2 i2 g2 g3 g13 G2 k10 k11 os z2
  go_wp2_with fail
  refine (toChain_any _ (HU.out.on G3) (HV.out.on G3) hl1 hl2).mono ?_
  rintro e w4 ⟨u4, v4, rfl, p4, i4, g4⟩
  have k40 := (gr_cell g4 w.heap.size 0 (by omega)).trans k30
  have k41 := (gr_cell g4 w.heap.size 1 (by omega)).trans k31
  have G4 := gr_then G3 g4
  have z4 := gr_le g4
  obtain ⟨a4, c4, rfl⟩ : ∃ a c, u4 = .slice a ps.length c := by obtain ⟨_, a, c, e, _⟩ := p4.pairs; exact ⟨a, c, e⟩
  obtain ⟨b4, d4, rfl⟩ : ∃ a c, v4 = .slice a xs.length c := by obtain ⟨_, a, c, e, _⟩ := i4.ints; exact ⟨a, c, e⟩
  have ASX := hid (And.intro (apart_lt (B := w3.heap.size) (fun k hk => (OS.out.lt k hk).2) (fun k hk => (p4.lt k hk).1)) (apart_lt (B := w3.heap.size) (fun k hk => (OS.out.lt k hk).2) i4.above))
  have P4 := hid p4
  have I4 := hid i4
  have OS4 := hid (OS.out.on g4)
  clear g4 k30 k31 p4 i4 OS
  go_wp2_with fail
  refine (wayOf_any _ _ (P4.out.pairs.on (by repeat (first | (with_reducible exact gr_refl _ _) | (with_reducible assumption) | (with_reducible refine gr_drew ?_) | (with_reducible refine gr_drewN ?_ _) | (with_reducible refine gr_alloc ?_ _) | (with_reducible refine gr_set ?_ (.inr (by simp; done)) _) | (with_reducible refine gr_set ?_ (.inr (by simp; omega)) _) | (with_reducible refine gr_then ?_ (by with_reducible assumption))))) (I4.out.ints.on (by repeat (first | (with_reducible exact gr_refl _ _) | (with_reducible assumption) | (with_reducible refine gr_drew ?_) | (with_reducible refine gr_drewN ?_ _) | (with_reducible refine gr_alloc ?_ _) | (with_reducible refine gr_set ?_ (.inr (by simp; done)) _) | (with_reducible refine gr_set ?_ (.inr (by simp; omega)) _) | (with_reducible refine gr_then ?_ (by with_reducible assumption)))))).mono ?_
  rw [HY.out]
  rintro e w5 ⟨r5, rfl, or, g5⟩
  have q10 := (gr_cell g5 w.heap.size 0 (by simp; omega)).trans ((World.cell?_alloc_lt _ _ _ (by simp; omega)).trans k40)
  have q11 := (gr_cell g5 w.heap.size 1 (by simp; omega)).trans ((World.cell?_alloc_lt _ _ _ (by simp; omega)).trans k41)
  have q50 := (gr_cell g5 w4.heap.size 0 (by simp)).trans (by simp [go_sem] : _ = some (Value.slice a4 ps.length c4))
  have q51 := (gr_cell g5 w4.heap.size 1 (by simp)).trans (by simp [go_sem] : _ = some (Value.slice b4 xs.length d4))
  have G5 : Gr w w5 none := gr_then (gr_alloc G4 _) g5
  have g45 := gr_then (gr_alloc (gr_refl w4 none) _) g5
  have P5 := hid (P4.out.on g45)
  have I5 := hid (I4.out.on g45)
  have OS5 := hid (OS4.out.on g45)
  have z5 := gr_le g5
  simp only [World.size_alloc] at z5
  have OR5 := hid (OwnI.mono (B' := w4.heap.size) or (by simp))
  have ARX := hid (And.intro (apart_gt (B := w4.heap.size) OR5.out.above (fun k hk => (P4.out.lt k hk).2)) (And.intro (apart_gt (B := w4.heap.size) OR5.out.above (fun k hk => (I4.out.lt k hk).2)) (apart_lt (B := w4.heap.size) (fun k hk => (OS4.out.lt k hk).2) OR5.out.above)))
  clear g5 g45 k40 k41 G1 G3 G4 P4 I4 OS4 or
  go_wp2_with fail
  refine (eqIntS_any _ OR5.out.ints OS5.out.ints).mono ?_
  rintro e w6 ⟨rfl, g6⟩
  have r10 := (gr_cell g6 w.heap.size 0 (by omega)).trans q10
  have r11 := (gr_cell g6 w.heap.size 1 (by omega)).trans q11
  have r50 := (gr_cell g6 w4.heap.size 0 (by omega)).trans q50
  have r51 := (gr_cell g6 w4.heap.size 1 (by omega)).trans q51
  have HG6 := hid (gr_then G5 g6)
  have P6 := hid (P5.out.on g6)
  have I6 := hid (I5.out.on g6)
  have OS6 := hid (OS5.out.on g6)
  have OR6 := hid (OR5.out.on g6)
  have z6 := gr_le g6
  have U6 := hid (HU.out.on HG6.out)
  have V6 := hid (HV.out.on HG6.out)
  have HA := hid (And.intro r10 (And.intro r11 (And.intro r50 (And.intro r51 (gr_refl w6 none)))))
  have HZ := hid (And.intro z3 (And.intro z4 (And.intro z5 (And.intro z6 z1))))
  clear g6 q10 q11 q50 q51 r10 r11 r50 r51 G5 P5 I5 OS5 OR5 z1 z3 z4 z5 z6
  go_wp2_with fail
  go_region_held3 (fun w' => w'.cell? ⟨w.heap.size, 0, none⟩ = some (.slice a ps.length cap) ∧ w'.cell? ⟨w.heap.size, 1, none⟩ = some (.slice a' xs.length cap') ∧ w'.cell? ⟨w4.heap.size, 0, none⟩ = some (.slice a4 ps.length c4) ∧ w'.cell? ⟨w4.heap.size, 1, none⟩ = some (.slice b4 xs.length d4) ∧ Gr w6 w' none)
    (first | exact held5 (by assumption) (by assumption) | exact held5 HA.out (gr_drew (gr_refl _ _)) | exact HA.out)
    (first
      | (go_at_call 42; refine (toChain_any _ (U6.out.on (gr_drew (gr_refl _ _))) (V6.out.on (gr_drew (gr_refl _ _))) hl1 hl2).mono ?_; rintro e w' ⟨u7, v7, rfl, p7, i7, g7⟩)
      | (go_at_call 44; refine (eqChain_any _ (P6.out.pairs.on (gr_then (gr_drew (gr_refl _ _)) g7)) (I6.out.ints.on (gr_then (gr_drew (gr_refl _ _)) g7)) p7.pairs i7.ints).mono ?_; simp only [decide_true, Bool.and_true]; rintro e w' ⟨rfl, g8⟩))
  have hh : w'.cell? ⟨w.heap.size, 0, none⟩ = some (.slice a ps.length cap) ∧ w'.cell? ⟨w.heap.size, 1, none⟩ = some (.slice a' xs.length cap') ∧ w'.cell? ⟨w4.heap.size, 0, none⟩ = some (.slice a4 ps.length c4) ∧ w'.cell? ⟨w4.heap.size, 1, none⟩ = some (.slice b4 xs.length d4) ∧ Gr w6 w' none := by assumption
  have h10 := hh.1
  have h11 := hh.2.1
  have h50 := hh.2.2.1
  have h51 := hh.2.2.2.1
  have g68 := hh.2.2.2.2
  have P8 := hid (P6.out.on g68)
  have I8 := hid (I6.out.on g68)
  have OS8 := hid (OS6.out.on g68)
  have OR8 := hid (OR6.out.on g68)
  have HG8 := hid (gr_then HG6.out g68)
  have z8 := gr_le g68
  clear hh p7 i7 g7 g8 g68 P6 I6 OS6 OR6 HA U6 V6
  go_wp2_with fail
  have z3 := HZ.out.1
  have z4 := HZ.out.2.1
  have z5 := HZ.out.2.2.1
  have z6 := HZ.out.2.2.2.1
  have z1 := HZ.out.2.2.2.2
  have zw := gr_le HG8.out
  refine (markChain_any (B := w3.heap.size) _ P8.out I8.out hl1 hl2 (apart_types P8.out.2 I8.out.2 (by decide)) _ (by omega) (by omega)).mono ?_
  rintro e w9 ⟨rfl, p9, i9, wm, m1, m2⟩
  have g19 := gr_row (gr_row HG8.out m1 (fun j e => by have := (P8.out.lt j e).1; omega)) m2 (fun j e => by have := (I8.out.lt j e).1; omega)
  have OS9 := hid ((OS8.out.kept m1 ASX.out.1).kept m2 ASX.out.2)
  have OR9 := hid ((OR8.out.kept m1 ARX.out.1).kept m2 ARX.out.2.1)
  have x10 := (gr_cellr m2 (b := w.heap.size) (o := 0) (by have := gr_le m1; omega) (fun e => by have := (I8.out.lt _ e).1; omega)).trans ((gr_cellr m1 (b := w.heap.size) (o := 0) (by omega) (fun e => by have := (P8.out.lt _ e).1; omega)).trans h10)
  have x11 := (gr_cellr m2 (b := w.heap.size) (o := 1) (by have := gr_le m1; omega) (fun e => by have := (I8.out.lt _ e).1; omega)).trans ((gr_cellr m1 (b := w.heap.size) (o := 1) (by omega) (fun e => by have := (P8.out.lt _ e).1; omega)).trans h11)
  have HG9 := hid g19
  have z9 : w.heap.size < w9.heap.size := by have := gr_le m1; have := gr_le m2; omega
  clear p9 i9 m1 m2 P8 I8 OS8 OR8 h10 h11 h50 h51 g19 HG8
  go_wp2_with fail
  refine (eqIntS_any _ OR9.out.ints OS9.out.ints).mono ?_
  rintro e w10 ⟨rfl, g10⟩
  have y10 := (gr_cell g10 w.heap.size 0 (by omega)).trans x10
  have y11 := (gr_cell g10 w.heap.size 1 (by omega)).trans x11
  have OS10 := hid (OS9.out.on g10)
  have OR10 := hid (OR9.out.on g10)
  have HG10 := hid (gr_then HG9.out g10)
  have z10 := gr_le g10
  clear x10 x11 g10 OS9 OR9 HG9
  go_wp2_with fail
  refine (markIntS_any 1 _ OR10.out hys (by omega) (by omega)).mono ?_
  rintro e w11 ⟨rfl, or11, m11⟩
  have u10 := (gr_cellr m11 (b := w.heap.size) (o := 0) (by omega) (fun e => by have := (OR10.out.lt _ e).1; omega)).trans y10
  have u11 := (gr_cellr m11 (b := w.heap.size) (o := 1) (by omega) (fun e => by have := (OR10.out.lt _ e).1; omega)).trans y11
  have OS11 := hid (OS10.out.kept m11 ARX.out.2.2)
  have OR11 := hid or11
  have HG11 := hid (gr_row HG10.out m11 (fun j e => by have := (OR10.out.lt j e).1; omega))
  have z11 := gr_le m11
  clear y10 y11 m11 OS10 OR10 or11
  go_wp2_with fail
  refine (heldIntS_any ys.length 1 _ OR11.out.ints hys (by omega) (by omega)).mono ?_
  rintro e w' ⟨rfl, rfl⟩
  go_wp2_with fail
  refine (toChain_any _ (HU.out.on HG11.out) (HV.out.on HG11.out) hl1 hl2).mono ?_
  rintro e w12 ⟨u12, v12, rfl, p12, i12, g12⟩
  go_wp2_with fail
  refine (wayOf_any _ _ p12.pairs i12.ints).mono ?_
  rw [HY.out]
  rintro e w13 ⟨r13, rfl, o13, g13⟩
  have g1113 := gr_then g12 g13
  have OS13 := hid (OS11.out.on g1113)
  have OR13 := hid (OR11.out.on g1113)
  have HG13 := hid (gr_then HG11.out g1113)
  have O13 := hid o13
  clear p12 i12 g12 g13 g1113 OS11 OR11 HG11 o13
  go_wp2_with fail
  refine (eqIntS_any _ O13.out.ints OS13.out.ints).mono ?_
  rintro e w14 ⟨rfl, g14⟩
  have OR14 := hid (OR13.out.on g14)
  have HG14 := hid (gr_then HG13.out g14)
  clear g14
  go_wp2_with fail
  refine (heldIntS_any ys.length 1 _ OR14.out.ints hys (by omega) (by omega)).mono ?_
  rintro e w' ⟨rfl, rfl⟩
  go_wp2
  go_ret
  exact ⟨rfl, HG14.out⟩
end Go.Proofs.Ytbbacodhklanjaa
