/- A year with another room, walked. -/
import Derived.Test.YtmnfainepmnpeaaYWith2
namespace Go.Proofs.Ytmnfainepmnpeaa
open Go.RowKit

set_option maxHeartbeats 8000000 in
theorem sWithRoom_any {v : Value} {xs : List Int} (r s n m : Int) (w : World) (hv : Ints w v xs) (hl : xs.length ≤ 1048576) :
    Calls Try.prog 24 #[.agg #[.int .i64 r, .int .i64 s, v, .int .i64 n], .int .i64 m] w (RetY 3 w (withR r s n xs m) (withS r s n xs m) xs n) := by
  have HV := hid hv
  obtain ⟨hxb, a, cap, rfl, _, _, hat⟩ := hv
  have HXB := hid hxb
  clear hat hxb
  cases hy : yearB r s xs n
  · have e0 : withOk r s n xs m = false := by simp [withOk, hy]
    rw [show withR r s n xs m = r from by simp [withR, e0], show withS r s n xs m = s from by simp [withS, e0]]
    have HY := hid hy
    clear hy e0
    go_enter Try.func24, Try.ntmps24
    go_wp2_with fail
    have RB := hid (show Blk ((w.alloc (.cells #[.int .i64 r, .int .i64 s, .slice a xs.length cap, .int .i64 n] 27)).alloc (.cells #[.int .i64 0, .int .i64 0, .slice none 0 0, .int .i64 0] 27)) (w.heap.size + 1) #[.int .i64 0, .int .i64 0, .slice none 0 0, .int .i64 0] 27 by have := blk_new (w.alloc (.cells #[.int .i64 r, .int .i64 s, .slice a xs.length cap, .int .i64 n] 27)) #[.int .i64 0, .int .i64 0, .slice none 0 0, .int .i64 0] 27; simpa using this)
    refine (l07Copy_any _ _ _ _ (HV.out.on (by repeat (first | (with_reducible exact gr_refl _ _) | (with_reducible assumption) | (with_reducible refine gr_drew ?_) | (with_reducible refine gr_drewN ?_ _) | (with_reducible refine gr_alloc ?_ _) | (with_reducible refine gr_set ?_ (.inr (by simp; done)) _) | (with_reducible refine gr_set ?_ (.inr (by simp; omega)) _) | (with_reducible refine gr_then ?_ (by with_reducible assumption))))) hl).mono ?_
    rintro e w1 ⟨u, rfl, ou, g1⟩
    obtain ⟨ua, uc, rfl⟩ := sl_own ou.2
    have z1 := gr_le g1
    simp only [World.size_alloc] at z1 ou
    have R1 := hid (RB.out.on g1)
    have G1 := hid (gr_then (gr_alloc (gr_alloc (gr_refl w none) _) _) g1)
    have O1 := hid ou
    have l1 : w.heap.size < w1.heap.size := by omega
    obtain ⟨p0, p1, p2, p3, lA⟩ := (yBox_new w 27 r s (.slice a xs.length cap) n).on (gr_then (gr_alloc (gr_refl _ _) _) g1)
    clear g1 ou RB
    have HX := hid (And.intro (blk_new w1 #[.int .i64 r, .int .i64 s, .slice ua xs.length uc, .int .i64 n] 27) (And.intro (R1.out.on (gr_alloc (gr_refl _ _) (.cells #[.int .i64 r, .int .i64 s, .slice ua xs.length uc, .int .i64 n] 27))) (And.intro (O1.out.on (gr_alloc (gr_refl _ _) (.cells #[.int .i64 r, .int .i64 s, .slice ua xs.length uc, .int .i64 n] 27))) (gr_alloc G1.out (.cells #[.int .i64 r, .int .i64 s, .slice ua xs.length uc, .int .i64 n] 27)))))
    have hBB : w.heap.size + 1 < w1.heap.size := by omega
    have KP := hid (World.grownBy.cell (gr_alloc (gr_refl w1 none) (.cells #[.int .i64 r, .int .i64 s, .slice ua xs.length uc, .int .i64 n] 27)) p1 (by simp))
    go_wp2_with fail
    refine (sYearOk_any _ _ _ _ (HV.out.on HX.out.2.2.2)).mono ?_
    rw [HY.out]
    rintro e w2 ⟨rfl, g2⟩
    have B2 := hid (HX.out.1.on g2)
    have R2 := hid (HX.out.2.1.on g2)
    have O2 := hid (HX.out.2.2.1.on g2)
    have G2 := hid (gr_then HX.out.2.2.2 g2)
    obtain ⟨m0, m1, m2, m3, n0, n1, n2, n3⟩ := cells4 B2.out
    obtain ⟨t0, t1, t2, t3, q0, q1, q2, q3⟩ := cells4 R2.out
    have k1 := World.grownBy.cell g2 KP.out (by simp)
    clear g2 p0 p1 p2 p3 lA
    go_wp2
    have bF := blk4_set (x0 := .int .i64 r) (x1 := .int .i64 s) (x2 := .slice ua xs.length uc) (x3 := .int .i64 n) R2.out
    obtain ⟨e0, e1, e2, e3, -⟩ := cells4 bF
    exact bodyPost_ret (v := .agg #[.int .i64 r, .int .i64 s, .slice ua xs.length uc, .int .i64 n]) (by simp [results, Try.results24, go_sem, e0, e1, e2, e3]) rfl ⟨_, rfl, OwnI.mono (own4 (B := w.heap.size + 1) O2.out (by omega)) (by omega), gr4 G2.out (by omega)⟩
  cases hm : inB m 1 1000000
  · have e0 : withOk r s n xs m = false := by simp [withOk, hm]
    rw [show withR r s n xs m = r from by simp [withR, e0], show withS r s n xs m = s from by simp [withS, e0]]
    have HY := hid hy
    have HM := hid hm
    clear hy e0 hm
    go_enter Try.func24, Try.ntmps24
    go_wp2_with fail
    have RB := hid (show Blk ((w.alloc (.cells #[.int .i64 r, .int .i64 s, .slice a xs.length cap, .int .i64 n] 27)).alloc (.cells #[.int .i64 0, .int .i64 0, .slice none 0 0, .int .i64 0] 27)) (w.heap.size + 1) #[.int .i64 0, .int .i64 0, .slice none 0 0, .int .i64 0] 27 by have := blk_new (w.alloc (.cells #[.int .i64 r, .int .i64 s, .slice a xs.length cap, .int .i64 n] 27)) #[.int .i64 0, .int .i64 0, .slice none 0 0, .int .i64 0] 27; simpa using this)
    refine (l07Copy_any _ _ _ _ (HV.out.on (by repeat (first | (with_reducible exact gr_refl _ _) | (with_reducible assumption) | (with_reducible refine gr_drew ?_) | (with_reducible refine gr_drewN ?_ _) | (with_reducible refine gr_alloc ?_ _) | (with_reducible refine gr_set ?_ (.inr (by simp; done)) _) | (with_reducible refine gr_set ?_ (.inr (by simp; omega)) _) | (with_reducible refine gr_then ?_ (by with_reducible assumption))))) hl).mono ?_
    rintro e w1 ⟨u, rfl, ou, g1⟩
    obtain ⟨ua, uc, rfl⟩ := sl_own ou.2
    have z1 := gr_le g1
    simp only [World.size_alloc] at z1 ou
    have R1 := hid (RB.out.on g1)
    have G1 := hid (gr_then (gr_alloc (gr_alloc (gr_refl w none) _) _) g1)
    have O1 := hid ou
    have l1 : w.heap.size < w1.heap.size := by omega
    obtain ⟨p0, p1, p2, p3, lA⟩ := (yBox_new w 27 r s (.slice a xs.length cap) n).on (gr_then (gr_alloc (gr_refl _ _) _) g1)
    clear g1 ou RB
    have HX := hid (And.intro (blk_new w1 #[.int .i64 r, .int .i64 s, .slice ua xs.length uc, .int .i64 n] 27) (And.intro (R1.out.on (gr_alloc (gr_refl _ _) (.cells #[.int .i64 r, .int .i64 s, .slice ua xs.length uc, .int .i64 n] 27))) (And.intro (O1.out.on (gr_alloc (gr_refl _ _) (.cells #[.int .i64 r, .int .i64 s, .slice ua xs.length uc, .int .i64 n] 27))) (gr_alloc G1.out (.cells #[.int .i64 r, .int .i64 s, .slice ua xs.length uc, .int .i64 n] 27)))))
    have hBB : w.heap.size + 1 < w1.heap.size := by omega
    have KP := hid (World.grownBy.cell (gr_alloc (gr_refl w1 none) (.cells #[.int .i64 r, .int .i64 s, .slice ua xs.length uc, .int .i64 n] 27)) p1 (by simp))
    go_wp2_with fail
    refine (sYearOk_any _ _ _ _ (HV.out.on HX.out.2.2.2)).mono ?_
    rw [HY.out]
    rintro e w2 ⟨rfl, g2⟩
    have B2 := hid (HX.out.1.on g2)
    have R2 := hid (HX.out.2.1.on g2)
    have O2 := hid (HX.out.2.2.1.on g2)
    have G2 := hid (gr_then HX.out.2.2.2 g2)
    obtain ⟨m0, m1, m2, m3, n0, n1, n2, n3⟩ := cells4 B2.out
    obtain ⟨t0, t1, t2, t3, q0, q1, q2, q3⟩ := cells4 R2.out
    have k1 := World.grownBy.cell g2 KP.out (by simp)
    clear g2 p0 p1 p2 p3 lA
    go_wp2_with (go_at_call 53; refine (l01In_any _ _ _ _).mono ?_; rw [HM.out]; rintro e w' ⟨rfl, rfl⟩)
    have bF := blk4_set (x0 := .int .i64 r) (x1 := .int .i64 s) (x2 := .slice ua xs.length uc) (x3 := .int .i64 n) R2.out
    obtain ⟨e0, e1, e2, e3, -⟩ := cells4 bF
    exact bodyPost_ret (v := .agg #[.int .i64 r, .int .i64 s, .slice ua xs.length uc, .int .i64 n]) (by simp [results, Try.results24, go_sem, e0, e1, e2, e3]) rfl ⟨_, rfl, OwnI.mono (own4 (B := w.heap.size + 1) O2.out (by omega)) (by omega), gr4 G2.out (by omega)⟩
  have e0 : withOk r s n xs m = true := by simp [withOk, hm, hy]
  have hmb := inB_true hm
  have hyb := yearB_parts hy
  have hb1 := hyb.1
  have hb2 := hyb.2.1
  rw [show withR r s n xs m = m from by simp [withR, e0], show withS r s n xs m = min s m from by simp [withS, e0]]
  have HY := hid hy
  have HM := hid hm
  clear hy e0 hm hyb
  by_cases hlt : m < s
  · rw [show min s m = m from by omega]
    go_enter Try.func24, Try.ntmps24
    go_wp2_with fail
    have RB := hid (show Blk ((w.alloc (.cells #[.int .i64 r, .int .i64 s, .slice a xs.length cap, .int .i64 n] 27)).alloc (.cells #[.int .i64 0, .int .i64 0, .slice none 0 0, .int .i64 0] 27)) (w.heap.size + 1) #[.int .i64 0, .int .i64 0, .slice none 0 0, .int .i64 0] 27 by have := blk_new (w.alloc (.cells #[.int .i64 r, .int .i64 s, .slice a xs.length cap, .int .i64 n] 27)) #[.int .i64 0, .int .i64 0, .slice none 0 0, .int .i64 0] 27; simpa using this)
    refine (l07Copy_any _ _ _ _ (HV.out.on (by repeat (first | (with_reducible exact gr_refl _ _) | (with_reducible assumption) | (with_reducible refine gr_drew ?_) | (with_reducible refine gr_drewN ?_ _) | (with_reducible refine gr_alloc ?_ _) | (with_reducible refine gr_set ?_ (.inr (by simp; done)) _) | (with_reducible refine gr_set ?_ (.inr (by simp; omega)) _) | (with_reducible refine gr_then ?_ (by with_reducible assumption))))) hl).mono ?_
    rintro e w1 ⟨u, rfl, ou, g1⟩
    obtain ⟨ua, uc, rfl⟩ := sl_own ou.2
    have z1 := gr_le g1
    simp only [World.size_alloc] at z1 ou
    have R1 := hid (RB.out.on g1)
    have G1 := hid (gr_then (gr_alloc (gr_alloc (gr_refl w none) _) _) g1)
    have O1 := hid ou
    have l1 : w.heap.size < w1.heap.size := by omega
    obtain ⟨p0, p1, p2, p3, lA⟩ := (yBox_new w 27 r s (.slice a xs.length cap) n).on (gr_then (gr_alloc (gr_refl _ _) _) g1)
    clear g1 ou RB
    have HX := hid (And.intro (blk_new w1 #[.int .i64 r, .int .i64 s, .slice ua xs.length uc, .int .i64 n] 27) (And.intro (R1.out.on (gr_alloc (gr_refl _ _) (.cells #[.int .i64 r, .int .i64 s, .slice ua xs.length uc, .int .i64 n] 27))) (And.intro (O1.out.on (gr_alloc (gr_refl _ _) (.cells #[.int .i64 r, .int .i64 s, .slice ua xs.length uc, .int .i64 n] 27))) (gr_alloc G1.out (.cells #[.int .i64 r, .int .i64 s, .slice ua xs.length uc, .int .i64 n] 27)))))
    have hBB : w.heap.size + 1 < w1.heap.size := by omega
    have KP := hid (World.grownBy.cell (gr_alloc (gr_refl w1 none) (.cells #[.int .i64 r, .int .i64 s, .slice ua xs.length uc, .int .i64 n] 27)) p1 (by simp))
    go_wp2_with fail
    refine (sYearOk_any _ _ _ _ (HV.out.on HX.out.2.2.2)).mono ?_
    rw [HY.out]
    rintro e w2 ⟨rfl, g2⟩
    have B2 := hid (HX.out.1.on g2)
    have R2 := hid (HX.out.2.1.on g2)
    have O2 := hid (HX.out.2.2.1.on g2)
    have G2 := hid (gr_then HX.out.2.2.2 g2)
    obtain ⟨m0, m1, m2, m3, n0, n1, n2, n3⟩ := cells4 B2.out
    obtain ⟨t0, t1, t2, t3, q0, q1, q2, q3⟩ := cells4 R2.out
    have k1 := World.grownBy.cell g2 KP.out (by simp)
    clear g2 p0 p1 p2 p3 lA
    have c1 := Go.Joins.block_setCell B2.out (i := 0) (.int .i64 m)
    have c2 := Go.Joins.block_setCell c1 (i := 1) (.int .i64 m)
    have C2 : Blk ((w2.setCell ⟨w1.heap.size, 0, none⟩ (.int .i64 m)).setCell ⟨w1.heap.size, 1, none⟩ (.int .i64 m)) (w1.heap.size) #[.int .i64 m, .int .i64 m, .slice ua xs.length uc, .int .i64 n] 27 := by unfold Blk; simpa using c2
    have D2 : Blk ((w2.setCell ⟨w1.heap.size, 0, none⟩ (.int .i64 m)).setCell ⟨w1.heap.size, 1, none⟩ (.int .i64 m)) (w.heap.size + 1) #[.int .i64 0, .int .i64 0, .slice none 0 0, .int .i64 0] 27 := blk_set (blk_set R2.out (by omega)) (by omega)
    have HC2 := hid C2
    have HD2 := hid D2
    obtain ⟨u0, u1, u2, u3, -⟩ := cells4 C2
    obtain ⟨v0, v1, v2, v3, y0, y1, y2, y3⟩ := cells4 D2
    have o5 := O2.out.kept (gr_set (p := ⟨w1.heap.size, 1, none⟩) (gr_set (p := ⟨w1.heap.size, 0, none⟩) (gr_refl w2 (some (w1.heap.size))) (.inl rfl) (.int .i64 m)) (.inl rfl) (.int .i64 m)) (.inr (own_ne_blk O2.out.2 B2.out (by decide)))
    have HO5 := hid o5
    have k1' := set_other (q := ⟨w1.heap.size, 0, none⟩) (v := .int .i64 m) (by intro e; have := congrArg Addr.block e; simp at this; try omega) k1
    have hne1 : (⟨w1.heap.size, 0, none⟩ : Addr) ≠ ⟨w.heap.size, 1, none⟩ := by simp
    have G5 := hid (gr_set (p := ⟨w1.heap.size, 1, none⟩) (gr_set (p := ⟨w1.heap.size, 0, none⟩) G2.out (.inr (by simp; omega)) (.int .i64 m)) (.inr (by simp; omega)) (.int .i64 m))
    clear c1 c2 C2 D2 o5
    go_wp2_with (go_at_call 53; refine (l01In_any _ _ _ _).mono ?_; rw [HM.out]; rintro e w' ⟨rfl, rfl⟩)
    have bF := blk4_set (x0 := .int .i64 m) (x1 := .int .i64 m) (x2 := .slice ua xs.length uc) (x3 := .int .i64 n) HD2.out
    obtain ⟨e0, e1, e2, e3, -⟩ := cells4 bF
    exact bodyPost_ret (v := .agg #[.int .i64 m, .int .i64 m, .slice ua xs.length uc, .int .i64 n]) (by simp [results, Try.results24, go_sem, e0, e1, e2, e3]) rfl ⟨_, rfl, OwnI.mono (own4 (B := w.heap.size + 1) HO5.out (by omega)) (by omega), gr4 G5.out (by omega)⟩
  · rw [show min s m = s from by omega]
    have hge : s ≤ m := by omega
    go_enter Try.func24, Try.ntmps24
    go_wp2_with fail
    have RB := hid (show Blk ((w.alloc (.cells #[.int .i64 r, .int .i64 s, .slice a xs.length cap, .int .i64 n] 27)).alloc (.cells #[.int .i64 0, .int .i64 0, .slice none 0 0, .int .i64 0] 27)) (w.heap.size + 1) #[.int .i64 0, .int .i64 0, .slice none 0 0, .int .i64 0] 27 by have := blk_new (w.alloc (.cells #[.int .i64 r, .int .i64 s, .slice a xs.length cap, .int .i64 n] 27)) #[.int .i64 0, .int .i64 0, .slice none 0 0, .int .i64 0] 27; simpa using this)
    refine (l07Copy_any _ _ _ _ (HV.out.on (by repeat (first | (with_reducible exact gr_refl _ _) | (with_reducible assumption) | (with_reducible refine gr_drew ?_) | (with_reducible refine gr_drewN ?_ _) | (with_reducible refine gr_alloc ?_ _) | (with_reducible refine gr_set ?_ (.inr (by simp; done)) _) | (with_reducible refine gr_set ?_ (.inr (by simp; omega)) _) | (with_reducible refine gr_then ?_ (by with_reducible assumption))))) hl).mono ?_
    rintro e w1 ⟨u, rfl, ou, g1⟩
    obtain ⟨ua, uc, rfl⟩ := sl_own ou.2
    have z1 := gr_le g1
    simp only [World.size_alloc] at z1 ou
    have R1 := hid (RB.out.on g1)
    have G1 := hid (gr_then (gr_alloc (gr_alloc (gr_refl w none) _) _) g1)
    have O1 := hid ou
    have l1 : w.heap.size < w1.heap.size := by omega
    obtain ⟨p0, p1, p2, p3, lA⟩ := (yBox_new w 27 r s (.slice a xs.length cap) n).on (gr_then (gr_alloc (gr_refl _ _) _) g1)
    clear g1 ou RB
    have HX := hid (And.intro (blk_new w1 #[.int .i64 r, .int .i64 s, .slice ua xs.length uc, .int .i64 n] 27) (And.intro (R1.out.on (gr_alloc (gr_refl _ _) (.cells #[.int .i64 r, .int .i64 s, .slice ua xs.length uc, .int .i64 n] 27))) (And.intro (O1.out.on (gr_alloc (gr_refl _ _) (.cells #[.int .i64 r, .int .i64 s, .slice ua xs.length uc, .int .i64 n] 27))) (gr_alloc G1.out (.cells #[.int .i64 r, .int .i64 s, .slice ua xs.length uc, .int .i64 n] 27)))))
    have hBB : w.heap.size + 1 < w1.heap.size := by omega
    have KP := hid (World.grownBy.cell (gr_alloc (gr_refl w1 none) (.cells #[.int .i64 r, .int .i64 s, .slice ua xs.length uc, .int .i64 n] 27)) p1 (by simp))
    go_wp2_with fail
    refine (sYearOk_any _ _ _ _ (HV.out.on HX.out.2.2.2)).mono ?_
    rw [HY.out]
    rintro e w2 ⟨rfl, g2⟩
    have B2 := hid (HX.out.1.on g2)
    have R2 := hid (HX.out.2.1.on g2)
    have O2 := hid (HX.out.2.2.1.on g2)
    have G2 := hid (gr_then HX.out.2.2.2 g2)
    obtain ⟨m0, m1, m2, m3, n0, n1, n2, n3⟩ := cells4 B2.out
    obtain ⟨t0, t1, t2, t3, q0, q1, q2, q3⟩ := cells4 R2.out
    have k1 := World.grownBy.cell g2 KP.out (by simp)
    clear g2 p0 p1 p2 p3 lA
    have c1 := Go.Joins.block_setCell B2.out (i := 0) (.int .i64 m)
    have c2 := Go.Joins.block_setCell c1 (i := 1) (.int .i64 s)
    have C2 : Blk ((w2.setCell ⟨w1.heap.size, 0, none⟩ (.int .i64 m)).setCell ⟨w1.heap.size, 1, none⟩ (.int .i64 s)) (w1.heap.size) #[.int .i64 m, .int .i64 s, .slice ua xs.length uc, .int .i64 n] 27 := by unfold Blk; simpa using c2
    have D2 : Blk ((w2.setCell ⟨w1.heap.size, 0, none⟩ (.int .i64 m)).setCell ⟨w1.heap.size, 1, none⟩ (.int .i64 s)) (w.heap.size + 1) #[.int .i64 0, .int .i64 0, .slice none 0 0, .int .i64 0] 27 := blk_set (blk_set R2.out (by omega)) (by omega)
    have HC2 := hid C2
    have HD2 := hid D2
    obtain ⟨u0, u1, u2, u3, -⟩ := cells4 C2
    obtain ⟨v0, v1, v2, v3, y0, y1, y2, y3⟩ := cells4 D2
    have o5 := O2.out.kept (gr_set (p := ⟨w1.heap.size, 1, none⟩) (gr_set (p := ⟨w1.heap.size, 0, none⟩) (gr_refl w2 (some (w1.heap.size))) (.inl rfl) (.int .i64 m)) (.inl rfl) (.int .i64 s)) (.inr (own_ne_blk O2.out.2 B2.out (by decide)))
    have HO5 := hid o5
    have k1' := set_other (q := ⟨w1.heap.size, 0, none⟩) (v := .int .i64 m) (by intro e; have := congrArg Addr.block e; simp at this; try omega) k1
    have hne1 : (⟨w1.heap.size, 0, none⟩ : Addr) ≠ ⟨w.heap.size, 1, none⟩ := by simp
    have G5 := hid (gr_set (p := ⟨w1.heap.size, 1, none⟩) (gr_set (p := ⟨w1.heap.size, 0, none⟩) G2.out (.inr (by simp; omega)) (.int .i64 m)) (.inr (by simp; omega)) (.int .i64 s))
    clear c1 c2 C2 D2 o5
    go_wp2_with (go_at_call 53; refine (l01In_any _ _ _ _).mono ?_; rw [HM.out]; rintro e w' ⟨rfl, rfl⟩)
    have bF := blk4_set (x0 := .int .i64 m) (x1 := .int .i64 s) (x2 := .slice ua xs.length uc) (x3 := .int .i64 n) HD2.out
    obtain ⟨e0, e1, e2, e3, -⟩ := cells4 bF
    exact bodyPost_ret (v := .agg #[.int .i64 m, .int .i64 s, .slice ua xs.length uc, .int .i64 n]) (by simp [results, Try.results24, go_sem, e0, e1, e2, e3]) rfl ⟨_, rfl, OwnI.mono (own4 (B := w.heap.size + 1) HO5.out (by omega)) (by omega), gr4 G5.out (by omega)⟩
set_option maxHeartbeats 8000000 in
theorem withRoom_any {v : Value} {xs : List Int} (r s n m : Int) (w : World) (hv : Ints w v xs) (hl : xs.length ≤ 1048576) :
    Calls Try.prog 25 #[.agg #[.int .i64 r, .int .i64 s, v, .int .i64 n], .int .i64 m] w (RetY 3 w (withR r s n xs m) (withS r s n xs m) xs n) := by
  have HV := hid hv
  obtain ⟨hxb, a, cap, rfl, _, _, hat⟩ := hv
  have HXB := hid hxb
  clear hat hxb
  cases hy : yearB r s xs n
  · have e0 : withOk r s n xs m = false := by simp [withOk, hy]
    rw [show withR r s n xs m = r from by simp [withR, e0], show withS r s n xs m = s from by simp [withS, e0]]
    have HY := hid hy
    clear hy e0
    go_enter Try.func25, Try.ntmps25
    go_upto_region 1 with fail
    have RB := hid (show Blk ((w.alloc (.cells #[.int .i64 r, .int .i64 s, .slice a xs.length cap, .int .i64 n] 27)).alloc (.cells #[.int .i64 0, .int .i64 0, .slice none 0 0, .int .i64 0] 27)) (w.heap.size + 1) #[.int .i64 0, .int .i64 0, .slice none 0 0, .int .i64 0] 27 by have := blk_new (w.alloc (.cells #[.int .i64 r, .int .i64 s, .slice a xs.length cap, .int .i64 n] 27)) #[.int .i64 0, .int .i64 0, .slice none 0 0, .int .i64 0] 27; simpa using this)
    have HK0 : Hid ((((w.alloc (.cells #[.int .i64 r, .int .i64 s, .slice a xs.length cap, .int .i64 n] 27)).alloc (.cells #[.int .i64 0, .int .i64 0, .slice none 0 0, .int .i64 0] 27))).drew.cell? ⟨w.heap.size, 0, none⟩ = some (.int .i64 r) ∧ (((w.alloc (.cells #[.int .i64 r, .int .i64 s, .slice a xs.length cap, .int .i64 n] 27)).alloc (.cells #[.int .i64 0, .int .i64 0, .slice none 0 0, .int .i64 0] 27))).drew.cell? ⟨w.heap.size, 1, none⟩ = some (.int .i64 s) ∧ (((w.alloc (.cells #[.int .i64 r, .int .i64 s, .slice a xs.length cap, .int .i64 n] 27)).alloc (.cells #[.int .i64 0, .int .i64 0, .slice none 0 0, .int .i64 0] 27))).drew.cell? ⟨w.heap.size, 2, none⟩ = some (.slice a xs.length cap) ∧ (((w.alloc (.cells #[.int .i64 r, .int .i64 s, .slice a xs.length cap, .int .i64 n] 27)).alloc (.cells #[.int .i64 0, .int .i64 0, .slice none 0 0, .int .i64 0] 27))).drew.cell? ⟨w.heap.size, 3, none⟩ = some (.int .i64 n) ∧ Gr (((w.alloc (.cells #[.int .i64 r, .int .i64 s, .slice a xs.length cap, .int .i64 n] 27)).alloc (.cells #[.int .i64 0, .int .i64 0, .slice none 0 0, .int .i64 0] 27))) (((w.alloc (.cells #[.int .i64 r, .int .i64 s, .slice a xs.length cap, .int .i64 n] 27)).alloc (.cells #[.int .i64 0, .int .i64 0, .slice none 0 0, .int .i64 0] 27))).drew none) := ⟨by simp [go_sem], by simp [go_sem], by simp [go_sem], by simp [go_sem], gr_drew (gr_refl _ _)⟩
    have HON : Hid (∀ W W' : World, (W.cell? ⟨w.heap.size, 0, none⟩ = some (.int .i64 r) ∧ W.cell? ⟨w.heap.size, 1, none⟩ = some (.int .i64 s) ∧ W.cell? ⟨w.heap.size, 2, none⟩ = some (.slice a xs.length cap) ∧ W.cell? ⟨w.heap.size, 3, none⟩ = some (.int .i64 n) ∧ Gr (((w.alloc (.cells #[.int .i64 r, .int .i64 s, .slice a xs.length cap, .int .i64 n] 27)).alloc (.cells #[.int .i64 0, .int .i64 0, .slice none 0 0, .int .i64 0] 27))) W none) → Gr W W' none → (W'.cell? ⟨w.heap.size, 0, none⟩ = some (.int .i64 r) ∧ W'.cell? ⟨w.heap.size, 1, none⟩ = some (.int .i64 s) ∧ W'.cell? ⟨w.heap.size, 2, none⟩ = some (.slice a xs.length cap) ∧ W'.cell? ⟨w.heap.size, 3, none⟩ = some (.int .i64 n) ∧ Gr (((w.alloc (.cells #[.int .i64 r, .int .i64 s, .slice a xs.length cap, .int .i64 n] 27)).alloc (.cells #[.int .i64 0, .int .i64 0, .slice none 0 0, .int .i64 0] 27))) W' none)) := fun W W' hh hg => ⟨World.grownBy.cell hg hh.1 (by simp), World.grownBy.cell hg hh.2.1 (by simp), World.grownBy.cell hg hh.2.2.1 (by simp), World.grownBy.cell hg hh.2.2.2.1 (by simp), gr_then hh.2.2.2.2 hg⟩
    have HA1 : Hid (((((w.alloc (.cells #[.int .i64 r, .int .i64 s, .slice a xs.length cap, .int .i64 n] 27)).alloc (.cells #[.int .i64 0, .int .i64 0, .slice none 0 0, .int .i64 0] 27))).alloc (.cells #[.int .i64 0, .int .i64 0, .slice none 0 0, .int .i64 0] 27)).drew.cell? ⟨w.heap.size, 0, none⟩ = some (.int .i64 r) ∧ ((((w.alloc (.cells #[.int .i64 r, .int .i64 s, .slice a xs.length cap, .int .i64 n] 27)).alloc (.cells #[.int .i64 0, .int .i64 0, .slice none 0 0, .int .i64 0] 27))).alloc (.cells #[.int .i64 0, .int .i64 0, .slice none 0 0, .int .i64 0] 27)).drew.cell? ⟨w.heap.size, 1, none⟩ = some (.int .i64 s) ∧ ((((w.alloc (.cells #[.int .i64 r, .int .i64 s, .slice a xs.length cap, .int .i64 n] 27)).alloc (.cells #[.int .i64 0, .int .i64 0, .slice none 0 0, .int .i64 0] 27))).alloc (.cells #[.int .i64 0, .int .i64 0, .slice none 0 0, .int .i64 0] 27)).drew.cell? ⟨w.heap.size, 2, none⟩ = some (.slice a xs.length cap) ∧ ((((w.alloc (.cells #[.int .i64 r, .int .i64 s, .slice a xs.length cap, .int .i64 n] 27)).alloc (.cells #[.int .i64 0, .int .i64 0, .slice none 0 0, .int .i64 0] 27))).alloc (.cells #[.int .i64 0, .int .i64 0, .slice none 0 0, .int .i64 0] 27)).drew.cell? ⟨w.heap.size, 3, none⟩ = some (.int .i64 n) ∧ Gr (((w.alloc (.cells #[.int .i64 r, .int .i64 s, .slice a xs.length cap, .int .i64 n] 27)).alloc (.cells #[.int .i64 0, .int .i64 0, .slice none 0 0, .int .i64 0] 27))) ((((w.alloc (.cells #[.int .i64 r, .int .i64 s, .slice a xs.length cap, .int .i64 n] 27)).alloc (.cells #[.int .i64 0, .int .i64 0, .slice none 0 0, .int .i64 0] 27))).alloc (.cells #[.int .i64 0, .int .i64 0, .slice none 0 0, .int .i64 0] 27)).drew none) := HON.out _ _ HK0.out (gr_da _ _)
    have HSET : Hid (∀ (W : World) (B : Nat) (x0 x1 x2 x3 : Value), (W.cell? ⟨w.heap.size, 0, none⟩ = some (.int .i64 r) ∧ W.cell? ⟨w.heap.size, 1, none⟩ = some (.int .i64 s) ∧ W.cell? ⟨w.heap.size, 2, none⟩ = some (.slice a xs.length cap) ∧ W.cell? ⟨w.heap.size, 3, none⟩ = some (.int .i64 n) ∧ Gr (((w.alloc (.cells #[.int .i64 r, .int .i64 s, .slice a xs.length cap, .int .i64 n] 27)).alloc (.cells #[.int .i64 0, .int .i64 0, .slice none 0 0, .int .i64 0] 27))) W none) → w.heap.size + 2 ≤ B → (((((W.setCell ⟨B, 0, none⟩ x0).setCell ⟨B, 1, none⟩ x1).setCell ⟨B, 2, none⟩ x2).setCell ⟨B, 3, none⟩ x3).cell? ⟨w.heap.size, 0, none⟩ = some (.int .i64 r) ∧ ((((W.setCell ⟨B, 0, none⟩ x0).setCell ⟨B, 1, none⟩ x1).setCell ⟨B, 2, none⟩ x2).setCell ⟨B, 3, none⟩ x3).cell? ⟨w.heap.size, 1, none⟩ = some (.int .i64 s) ∧ ((((W.setCell ⟨B, 0, none⟩ x0).setCell ⟨B, 1, none⟩ x1).setCell ⟨B, 2, none⟩ x2).setCell ⟨B, 3, none⟩ x3).cell? ⟨w.heap.size, 2, none⟩ = some (.slice a xs.length cap) ∧ ((((W.setCell ⟨B, 0, none⟩ x0).setCell ⟨B, 1, none⟩ x1).setCell ⟨B, 2, none⟩ x2).setCell ⟨B, 3, none⟩ x3).cell? ⟨w.heap.size, 3, none⟩ = some (.int .i64 n) ∧ Gr (((w.alloc (.cells #[.int .i64 r, .int .i64 s, .slice a xs.length cap, .int .i64 n] 27)).alloc (.cells #[.int .i64 0, .int .i64 0, .slice none 0 0, .int .i64 0] 27))) ((((W.setCell ⟨B, 0, none⟩ x0).setCell ⟨B, 1, none⟩ x1).setCell ⟨B, 2, none⟩ x2).setCell ⟨B, 3, none⟩ x3) none)) := fun W B x0 x1 x2 x3 hh hB => by
      have q := gr4 (x0 := x0) (x1 := x1) (x2 := x2) (x3 := x3) hh.2.2.2.2 (show (((w.alloc (.cells #[.int .i64 r, .int .i64 s, .slice a xs.length cap, .int .i64 n] 27)).alloc (.cells #[.int .i64 0, .int .i64 0, .slice none 0 0, .int .i64 0] 27))).heap.size ≤ B by simp; omega)
      have k := HK0.out
      exact ⟨World.grownBy.cell q k.1 (by simp), World.grownBy.cell q k.2.1 (by simp), World.grownBy.cell q k.2.2.1 (by simp), World.grownBy.cell q k.2.2.2.1 (by simp), q⟩
    have HB2 : Hid (Blk ((((w.alloc (.cells #[.int .i64 r, .int .i64 s, .slice a xs.length cap, .int .i64 n] 27)).alloc (.cells #[.int .i64 0, .int .i64 0, .slice none 0 0, .int .i64 0] 27))).alloc (.cells #[.int .i64 0, .int .i64 0, .slice none 0 0, .int .i64 0] 27)).drew (w.heap.size + 1 + 1) #[.int .i64 0, .int .i64 0, .slice none 0 0, .int .i64 0] 27) := Blk.on (show Blk ((((w.alloc (.cells #[.int .i64 r, .int .i64 s, .slice a xs.length cap, .int .i64 n] 27)).alloc (.cells #[.int .i64 0, .int .i64 0, .slice none 0 0, .int .i64 0] 27))).alloc (.cells #[.int .i64 0, .int .i64 0, .slice none 0 0, .int .i64 0] 27)) (w.heap.size + 1 + 1) _ _ by have := blk_new (((w.alloc (.cells #[.int .i64 r, .int .i64 s, .slice a xs.length cap, .int .i64 n] 27)).alloc (.cells #[.int .i64 0, .int .i64 0, .slice none 0 0, .int .i64 0] 27))) #[.int .i64 0, .int .i64 0, .slice none 0 0, .int .i64 0] 27; simpa using this) (gr_drew (gr_refl _ _))
    have HIN : Hid (∀ W : World, (W.cell? ⟨w.heap.size, 0, none⟩ = some (.int .i64 r) ∧ W.cell? ⟨w.heap.size, 1, none⟩ = some (.int .i64 s) ∧ W.cell? ⟨w.heap.size, 2, none⟩ = some (.slice a xs.length cap) ∧ W.cell? ⟨w.heap.size, 3, none⟩ = some (.int .i64 n) ∧ Gr (((w.alloc (.cells #[.int .i64 r, .int .i64 s, .slice a xs.length cap, .int .i64 n] 27)).alloc (.cells #[.int .i64 0, .int .i64 0, .slice none 0 0, .int .i64 0] 27))) W none) → Ints W (.slice a xs.length cap) xs) := fun W hh => HV.out.on (gr_then (gr_alloc (gr_alloc (gr_refl _ _) _) _) hh.2.2.2.2)
    go_cut [5] (fun q wx => ∃ B ua uc, q = .pointer (some ⟨B, 0, none⟩) ∧ Blk wx B #[.int .i64 r, .int .i64 s, .slice ua xs.length uc, .int .i64 n] 27 ∧ OwnI 3 wx (w.heap.size + 2) (.slice ua xs.length uc) xs ∧ Gr (((w.alloc (.cells #[.int .i64 r, .int .i64 s, .slice a xs.length cap, .int .i64 n] 27)).alloc (.cells #[.int .i64 0, .int .i64 0, .slice none 0 0, .int .i64 0] 27))) wx none ∧ w.heap.size + 2 ≤ B)
    case first =>
      go_region_held3 (fun w' => w'.cell? ⟨w.heap.size, 0, none⟩ = some (.int .i64 r) ∧ w'.cell? ⟨w.heap.size, 1, none⟩ = some (.int .i64 s) ∧ w'.cell? ⟨w.heap.size, 2, none⟩ = some (.slice a xs.length cap) ∧ w'.cell? ⟨w.heap.size, 3, none⟩ = some (.int .i64 n) ∧ Gr (((w.alloc (.cells #[.int .i64 r, .int .i64 s, .slice a xs.length cap, .int .i64 n] 27)).alloc (.cells #[.int .i64 0, .int .i64 0, .slice none 0 0, .int .i64 0] 27))) w' none)
        (first | with_reducible exact HK0.out | with_reducible exact s2 | with_reducible exact HA1.out | with_reducible exact HSET.out _ _ _ _ _ _ s2 (by simp) | with_reducible exact HON.out _ _ s2 (gr_alloc (gr_refl _ _) _))
        (first
          | (go_at_call 60; refine (copyInts_any _ (HIN.out _ (by assumption)) hl).mono ?_; rintro e w2 ⟨u, rfl, ou, g2⟩; obtain ⟨ua, uc, rfl⟩ := sl_own ou.2; have s2 := HON.out _ _ (by assumption) g2; try (have B2 := HB2.out.on g2; obtain ⟨t0, t1, t2, t3, q0, q1, q2, q3⟩ := cells4 B2)))
      all_goals (
        go_wp2_with fail
        go_meet
        first
          | exact ⟨_, _, _, rfl, blk_new w2 _ _, OwnI.mono (ou.on (gr_alloc (gr_refl _ _) _)) (by simp), gr_alloc s2.2.2.2.2 _, by have := gr_le s2.2.2.2.2; simp at this; omega⟩
          | exact ⟨_, _, _, rfl, blk4_set B2, OwnI.mono (own4 (B := w.heap.size + 1 + 1) ou (by simp)) (by simp), gr4 s2.2.2.2.2 (by simp), by omega⟩)
    case rest =>
      obtain ⟨B, ua, uc, rfl, hB, hO, hG, hBs⟩ := hcut
      have HX := hid (And.intro hB (And.intro (RB.out.on hG) (And.intro hO (gr_then (gr_alloc (gr_alloc (gr_refl w none) _) _) hG))))
      obtain ⟨p0, p1, p2, p3, lA⟩ := ((yBox_new w 27 r s (.slice a xs.length cap) n).on (gr_alloc (gr_refl _ _) (.cells #[.int .i64 0, .int .i64 0, .slice none 0 0, .int .i64 0] 27))).on hG
      have KP := hid p1
      clear hB hO hG HK0 HON HA1 HSET HB2 HIN
      go_wp2_with fail
      refine (yearOk_any _ _ _ _ (HV.out.on HX.out.2.2.2)).mono ?_
      rw [HY.out]
      rintro e w2 ⟨rfl, g2⟩
      have B2 := hid (HX.out.1.on g2)
      have R2 := hid (HX.out.2.1.on g2)
      have O2 := hid (HX.out.2.2.1.on g2)
      have G2 := hid (gr_then HX.out.2.2.2 g2)
      obtain ⟨m0, m1, m2, m3, n0, n1, n2, n3⟩ := cells4 B2.out
      obtain ⟨t0, t1, t2, t3, q0, q1, q2, q3⟩ := cells4 R2.out
      have k1 := World.grownBy.cell g2 KP.out (by simp)
      clear g2 p0 p1 p2 p3 lA
      go_wp2
      have bF := blk4_set (x0 := .int .i64 r) (x1 := .int .i64 s) (x2 := .slice ua xs.length uc) (x3 := .int .i64 n) R2.out
      obtain ⟨e0, e1, e2, e3, -⟩ := cells4 bF
      exact bodyPost_ret (v := .agg #[.int .i64 r, .int .i64 s, .slice ua xs.length uc, .int .i64 n]) (by simp [results, Try.results25, go_sem, e0, e1, e2, e3]) rfl ⟨_, rfl, OwnI.mono (own4 (B := w.heap.size + 1) O2.out (by omega)) (by omega), gr4 G2.out (by omega)⟩
  cases hm : inB m 1 1000000
  · have e0 : withOk r s n xs m = false := by simp [withOk, hm]
    rw [show withR r s n xs m = r from by simp [withR, e0], show withS r s n xs m = s from by simp [withS, e0]]
    have HY := hid hy
    have HM := hid hm
    clear hy e0 hm
    go_enter Try.func25, Try.ntmps25
    go_upto_region 1 with fail
    have RB := hid (show Blk ((w.alloc (.cells #[.int .i64 r, .int .i64 s, .slice a xs.length cap, .int .i64 n] 27)).alloc (.cells #[.int .i64 0, .int .i64 0, .slice none 0 0, .int .i64 0] 27)) (w.heap.size + 1) #[.int .i64 0, .int .i64 0, .slice none 0 0, .int .i64 0] 27 by have := blk_new (w.alloc (.cells #[.int .i64 r, .int .i64 s, .slice a xs.length cap, .int .i64 n] 27)) #[.int .i64 0, .int .i64 0, .slice none 0 0, .int .i64 0] 27; simpa using this)
    have HK0 : Hid ((((w.alloc (.cells #[.int .i64 r, .int .i64 s, .slice a xs.length cap, .int .i64 n] 27)).alloc (.cells #[.int .i64 0, .int .i64 0, .slice none 0 0, .int .i64 0] 27))).drew.cell? ⟨w.heap.size, 0, none⟩ = some (.int .i64 r) ∧ (((w.alloc (.cells #[.int .i64 r, .int .i64 s, .slice a xs.length cap, .int .i64 n] 27)).alloc (.cells #[.int .i64 0, .int .i64 0, .slice none 0 0, .int .i64 0] 27))).drew.cell? ⟨w.heap.size, 1, none⟩ = some (.int .i64 s) ∧ (((w.alloc (.cells #[.int .i64 r, .int .i64 s, .slice a xs.length cap, .int .i64 n] 27)).alloc (.cells #[.int .i64 0, .int .i64 0, .slice none 0 0, .int .i64 0] 27))).drew.cell? ⟨w.heap.size, 2, none⟩ = some (.slice a xs.length cap) ∧ (((w.alloc (.cells #[.int .i64 r, .int .i64 s, .slice a xs.length cap, .int .i64 n] 27)).alloc (.cells #[.int .i64 0, .int .i64 0, .slice none 0 0, .int .i64 0] 27))).drew.cell? ⟨w.heap.size, 3, none⟩ = some (.int .i64 n) ∧ Gr (((w.alloc (.cells #[.int .i64 r, .int .i64 s, .slice a xs.length cap, .int .i64 n] 27)).alloc (.cells #[.int .i64 0, .int .i64 0, .slice none 0 0, .int .i64 0] 27))) (((w.alloc (.cells #[.int .i64 r, .int .i64 s, .slice a xs.length cap, .int .i64 n] 27)).alloc (.cells #[.int .i64 0, .int .i64 0, .slice none 0 0, .int .i64 0] 27))).drew none) := ⟨by simp [go_sem], by simp [go_sem], by simp [go_sem], by simp [go_sem], gr_drew (gr_refl _ _)⟩
    have HON : Hid (∀ W W' : World, (W.cell? ⟨w.heap.size, 0, none⟩ = some (.int .i64 r) ∧ W.cell? ⟨w.heap.size, 1, none⟩ = some (.int .i64 s) ∧ W.cell? ⟨w.heap.size, 2, none⟩ = some (.slice a xs.length cap) ∧ W.cell? ⟨w.heap.size, 3, none⟩ = some (.int .i64 n) ∧ Gr (((w.alloc (.cells #[.int .i64 r, .int .i64 s, .slice a xs.length cap, .int .i64 n] 27)).alloc (.cells #[.int .i64 0, .int .i64 0, .slice none 0 0, .int .i64 0] 27))) W none) → Gr W W' none → (W'.cell? ⟨w.heap.size, 0, none⟩ = some (.int .i64 r) ∧ W'.cell? ⟨w.heap.size, 1, none⟩ = some (.int .i64 s) ∧ W'.cell? ⟨w.heap.size, 2, none⟩ = some (.slice a xs.length cap) ∧ W'.cell? ⟨w.heap.size, 3, none⟩ = some (.int .i64 n) ∧ Gr (((w.alloc (.cells #[.int .i64 r, .int .i64 s, .slice a xs.length cap, .int .i64 n] 27)).alloc (.cells #[.int .i64 0, .int .i64 0, .slice none 0 0, .int .i64 0] 27))) W' none)) := fun W W' hh hg => ⟨World.grownBy.cell hg hh.1 (by simp), World.grownBy.cell hg hh.2.1 (by simp), World.grownBy.cell hg hh.2.2.1 (by simp), World.grownBy.cell hg hh.2.2.2.1 (by simp), gr_then hh.2.2.2.2 hg⟩
    have HA1 : Hid (((((w.alloc (.cells #[.int .i64 r, .int .i64 s, .slice a xs.length cap, .int .i64 n] 27)).alloc (.cells #[.int .i64 0, .int .i64 0, .slice none 0 0, .int .i64 0] 27))).alloc (.cells #[.int .i64 0, .int .i64 0, .slice none 0 0, .int .i64 0] 27)).drew.cell? ⟨w.heap.size, 0, none⟩ = some (.int .i64 r) ∧ ((((w.alloc (.cells #[.int .i64 r, .int .i64 s, .slice a xs.length cap, .int .i64 n] 27)).alloc (.cells #[.int .i64 0, .int .i64 0, .slice none 0 0, .int .i64 0] 27))).alloc (.cells #[.int .i64 0, .int .i64 0, .slice none 0 0, .int .i64 0] 27)).drew.cell? ⟨w.heap.size, 1, none⟩ = some (.int .i64 s) ∧ ((((w.alloc (.cells #[.int .i64 r, .int .i64 s, .slice a xs.length cap, .int .i64 n] 27)).alloc (.cells #[.int .i64 0, .int .i64 0, .slice none 0 0, .int .i64 0] 27))).alloc (.cells #[.int .i64 0, .int .i64 0, .slice none 0 0, .int .i64 0] 27)).drew.cell? ⟨w.heap.size, 2, none⟩ = some (.slice a xs.length cap) ∧ ((((w.alloc (.cells #[.int .i64 r, .int .i64 s, .slice a xs.length cap, .int .i64 n] 27)).alloc (.cells #[.int .i64 0, .int .i64 0, .slice none 0 0, .int .i64 0] 27))).alloc (.cells #[.int .i64 0, .int .i64 0, .slice none 0 0, .int .i64 0] 27)).drew.cell? ⟨w.heap.size, 3, none⟩ = some (.int .i64 n) ∧ Gr (((w.alloc (.cells #[.int .i64 r, .int .i64 s, .slice a xs.length cap, .int .i64 n] 27)).alloc (.cells #[.int .i64 0, .int .i64 0, .slice none 0 0, .int .i64 0] 27))) ((((w.alloc (.cells #[.int .i64 r, .int .i64 s, .slice a xs.length cap, .int .i64 n] 27)).alloc (.cells #[.int .i64 0, .int .i64 0, .slice none 0 0, .int .i64 0] 27))).alloc (.cells #[.int .i64 0, .int .i64 0, .slice none 0 0, .int .i64 0] 27)).drew none) := HON.out _ _ HK0.out (gr_da _ _)
    have HSET : Hid (∀ (W : World) (B : Nat) (x0 x1 x2 x3 : Value), (W.cell? ⟨w.heap.size, 0, none⟩ = some (.int .i64 r) ∧ W.cell? ⟨w.heap.size, 1, none⟩ = some (.int .i64 s) ∧ W.cell? ⟨w.heap.size, 2, none⟩ = some (.slice a xs.length cap) ∧ W.cell? ⟨w.heap.size, 3, none⟩ = some (.int .i64 n) ∧ Gr (((w.alloc (.cells #[.int .i64 r, .int .i64 s, .slice a xs.length cap, .int .i64 n] 27)).alloc (.cells #[.int .i64 0, .int .i64 0, .slice none 0 0, .int .i64 0] 27))) W none) → w.heap.size + 2 ≤ B → (((((W.setCell ⟨B, 0, none⟩ x0).setCell ⟨B, 1, none⟩ x1).setCell ⟨B, 2, none⟩ x2).setCell ⟨B, 3, none⟩ x3).cell? ⟨w.heap.size, 0, none⟩ = some (.int .i64 r) ∧ ((((W.setCell ⟨B, 0, none⟩ x0).setCell ⟨B, 1, none⟩ x1).setCell ⟨B, 2, none⟩ x2).setCell ⟨B, 3, none⟩ x3).cell? ⟨w.heap.size, 1, none⟩ = some (.int .i64 s) ∧ ((((W.setCell ⟨B, 0, none⟩ x0).setCell ⟨B, 1, none⟩ x1).setCell ⟨B, 2, none⟩ x2).setCell ⟨B, 3, none⟩ x3).cell? ⟨w.heap.size, 2, none⟩ = some (.slice a xs.length cap) ∧ ((((W.setCell ⟨B, 0, none⟩ x0).setCell ⟨B, 1, none⟩ x1).setCell ⟨B, 2, none⟩ x2).setCell ⟨B, 3, none⟩ x3).cell? ⟨w.heap.size, 3, none⟩ = some (.int .i64 n) ∧ Gr (((w.alloc (.cells #[.int .i64 r, .int .i64 s, .slice a xs.length cap, .int .i64 n] 27)).alloc (.cells #[.int .i64 0, .int .i64 0, .slice none 0 0, .int .i64 0] 27))) ((((W.setCell ⟨B, 0, none⟩ x0).setCell ⟨B, 1, none⟩ x1).setCell ⟨B, 2, none⟩ x2).setCell ⟨B, 3, none⟩ x3) none)) := fun W B x0 x1 x2 x3 hh hB => by
      have q := gr4 (x0 := x0) (x1 := x1) (x2 := x2) (x3 := x3) hh.2.2.2.2 (show (((w.alloc (.cells #[.int .i64 r, .int .i64 s, .slice a xs.length cap, .int .i64 n] 27)).alloc (.cells #[.int .i64 0, .int .i64 0, .slice none 0 0, .int .i64 0] 27))).heap.size ≤ B by simp; omega)
      have k := HK0.out
      exact ⟨World.grownBy.cell q k.1 (by simp), World.grownBy.cell q k.2.1 (by simp), World.grownBy.cell q k.2.2.1 (by simp), World.grownBy.cell q k.2.2.2.1 (by simp), q⟩
    have HB2 : Hid (Blk ((((w.alloc (.cells #[.int .i64 r, .int .i64 s, .slice a xs.length cap, .int .i64 n] 27)).alloc (.cells #[.int .i64 0, .int .i64 0, .slice none 0 0, .int .i64 0] 27))).alloc (.cells #[.int .i64 0, .int .i64 0, .slice none 0 0, .int .i64 0] 27)).drew (w.heap.size + 1 + 1) #[.int .i64 0, .int .i64 0, .slice none 0 0, .int .i64 0] 27) := Blk.on (show Blk ((((w.alloc (.cells #[.int .i64 r, .int .i64 s, .slice a xs.length cap, .int .i64 n] 27)).alloc (.cells #[.int .i64 0, .int .i64 0, .slice none 0 0, .int .i64 0] 27))).alloc (.cells #[.int .i64 0, .int .i64 0, .slice none 0 0, .int .i64 0] 27)) (w.heap.size + 1 + 1) _ _ by have := blk_new (((w.alloc (.cells #[.int .i64 r, .int .i64 s, .slice a xs.length cap, .int .i64 n] 27)).alloc (.cells #[.int .i64 0, .int .i64 0, .slice none 0 0, .int .i64 0] 27))) #[.int .i64 0, .int .i64 0, .slice none 0 0, .int .i64 0] 27; simpa using this) (gr_drew (gr_refl _ _))
    have HIN : Hid (∀ W : World, (W.cell? ⟨w.heap.size, 0, none⟩ = some (.int .i64 r) ∧ W.cell? ⟨w.heap.size, 1, none⟩ = some (.int .i64 s) ∧ W.cell? ⟨w.heap.size, 2, none⟩ = some (.slice a xs.length cap) ∧ W.cell? ⟨w.heap.size, 3, none⟩ = some (.int .i64 n) ∧ Gr (((w.alloc (.cells #[.int .i64 r, .int .i64 s, .slice a xs.length cap, .int .i64 n] 27)).alloc (.cells #[.int .i64 0, .int .i64 0, .slice none 0 0, .int .i64 0] 27))) W none) → Ints W (.slice a xs.length cap) xs) := fun W hh => HV.out.on (gr_then (gr_alloc (gr_alloc (gr_refl _ _) _) _) hh.2.2.2.2)
    go_cut [5] (fun q wx => ∃ B ua uc, q = .pointer (some ⟨B, 0, none⟩) ∧ Blk wx B #[.int .i64 r, .int .i64 s, .slice ua xs.length uc, .int .i64 n] 27 ∧ OwnI 3 wx (w.heap.size + 2) (.slice ua xs.length uc) xs ∧ Gr (((w.alloc (.cells #[.int .i64 r, .int .i64 s, .slice a xs.length cap, .int .i64 n] 27)).alloc (.cells #[.int .i64 0, .int .i64 0, .slice none 0 0, .int .i64 0] 27))) wx none ∧ w.heap.size + 2 ≤ B)
    case first =>
      go_region_held3 (fun w' => w'.cell? ⟨w.heap.size, 0, none⟩ = some (.int .i64 r) ∧ w'.cell? ⟨w.heap.size, 1, none⟩ = some (.int .i64 s) ∧ w'.cell? ⟨w.heap.size, 2, none⟩ = some (.slice a xs.length cap) ∧ w'.cell? ⟨w.heap.size, 3, none⟩ = some (.int .i64 n) ∧ Gr (((w.alloc (.cells #[.int .i64 r, .int .i64 s, .slice a xs.length cap, .int .i64 n] 27)).alloc (.cells #[.int .i64 0, .int .i64 0, .slice none 0 0, .int .i64 0] 27))) w' none)
        (first | with_reducible exact HK0.out | with_reducible exact s2 | with_reducible exact HA1.out | with_reducible exact HSET.out _ _ _ _ _ _ s2 (by simp) | with_reducible exact HON.out _ _ s2 (gr_alloc (gr_refl _ _) _))
        (first
          | (go_at_call 60; refine (copyInts_any _ (HIN.out _ (by assumption)) hl).mono ?_; rintro e w2 ⟨u, rfl, ou, g2⟩; obtain ⟨ua, uc, rfl⟩ := sl_own ou.2; have s2 := HON.out _ _ (by assumption) g2; try (have B2 := HB2.out.on g2; obtain ⟨t0, t1, t2, t3, q0, q1, q2, q3⟩ := cells4 B2)))
      all_goals (
        go_wp2_with fail
        go_meet
        first
          | exact ⟨_, _, _, rfl, blk_new w2 _ _, OwnI.mono (ou.on (gr_alloc (gr_refl _ _) _)) (by simp), gr_alloc s2.2.2.2.2 _, by have := gr_le s2.2.2.2.2; simp at this; omega⟩
          | exact ⟨_, _, _, rfl, blk4_set B2, OwnI.mono (own4 (B := w.heap.size + 1 + 1) ou (by simp)) (by simp), gr4 s2.2.2.2.2 (by simp), by omega⟩)
    case rest =>
      obtain ⟨B, ua, uc, rfl, hB, hO, hG, hBs⟩ := hcut
      have HX := hid (And.intro hB (And.intro (RB.out.on hG) (And.intro hO (gr_then (gr_alloc (gr_alloc (gr_refl w none) _) _) hG))))
      obtain ⟨p0, p1, p2, p3, lA⟩ := ((yBox_new w 27 r s (.slice a xs.length cap) n).on (gr_alloc (gr_refl _ _) (.cells #[.int .i64 0, .int .i64 0, .slice none 0 0, .int .i64 0] 27))).on hG
      have KP := hid p1
      clear hB hO hG HK0 HON HA1 HSET HB2 HIN
      go_wp2_with fail
      refine (yearOk_any _ _ _ _ (HV.out.on HX.out.2.2.2)).mono ?_
      rw [HY.out]
      rintro e w2 ⟨rfl, g2⟩
      have B2 := hid (HX.out.1.on g2)
      have R2 := hid (HX.out.2.1.on g2)
      have O2 := hid (HX.out.2.2.1.on g2)
      have G2 := hid (gr_then HX.out.2.2.2 g2)
      obtain ⟨m0, m1, m2, m3, n0, n1, n2, n3⟩ := cells4 B2.out
      obtain ⟨t0, t1, t2, t3, q0, q1, q2, q3⟩ := cells4 R2.out
      have k1 := World.grownBy.cell g2 KP.out (by simp)
      clear g2 p0 p1 p2 p3 lA
      go_wp2_with (go_at_call 55; refine (within_any _ _ _ _).mono ?_; rw [HM.out]; rintro e w' ⟨rfl, rfl⟩)
      have bF := blk4_set (x0 := .int .i64 r) (x1 := .int .i64 s) (x2 := .slice ua xs.length uc) (x3 := .int .i64 n) R2.out
      obtain ⟨e0, e1, e2, e3, -⟩ := cells4 bF
      exact bodyPost_ret (v := .agg #[.int .i64 r, .int .i64 s, .slice ua xs.length uc, .int .i64 n]) (by simp [results, Try.results25, go_sem, e0, e1, e2, e3]) rfl ⟨_, rfl, OwnI.mono (own4 (B := w.heap.size + 1) O2.out (by omega)) (by omega), gr4 G2.out (by omega)⟩
  have e0 : withOk r s n xs m = true := by simp [withOk, hm, hy]
  have hmb := inB_true hm
  have hyb := yearB_parts hy
  have hb1 := hyb.1
  have hb2 := hyb.2.1
  rw [show withR r s n xs m = m from by simp [withR, e0], show withS r s n xs m = min s m from by simp [withS, e0]]
  have HY := hid hy
  have HM := hid hm
  clear hy e0 hm hyb
  by_cases hlt : m < s
  · rw [show min s m = m from by omega]
    go_enter Try.func25, Try.ntmps25
    go_upto_region 1 with fail
    have RB := hid (show Blk ((w.alloc (.cells #[.int .i64 r, .int .i64 s, .slice a xs.length cap, .int .i64 n] 27)).alloc (.cells #[.int .i64 0, .int .i64 0, .slice none 0 0, .int .i64 0] 27)) (w.heap.size + 1) #[.int .i64 0, .int .i64 0, .slice none 0 0, .int .i64 0] 27 by have := blk_new (w.alloc (.cells #[.int .i64 r, .int .i64 s, .slice a xs.length cap, .int .i64 n] 27)) #[.int .i64 0, .int .i64 0, .slice none 0 0, .int .i64 0] 27; simpa using this)
    have HK0 : Hid ((((w.alloc (.cells #[.int .i64 r, .int .i64 s, .slice a xs.length cap, .int .i64 n] 27)).alloc (.cells #[.int .i64 0, .int .i64 0, .slice none 0 0, .int .i64 0] 27))).drew.cell? ⟨w.heap.size, 0, none⟩ = some (.int .i64 r) ∧ (((w.alloc (.cells #[.int .i64 r, .int .i64 s, .slice a xs.length cap, .int .i64 n] 27)).alloc (.cells #[.int .i64 0, .int .i64 0, .slice none 0 0, .int .i64 0] 27))).drew.cell? ⟨w.heap.size, 1, none⟩ = some (.int .i64 s) ∧ (((w.alloc (.cells #[.int .i64 r, .int .i64 s, .slice a xs.length cap, .int .i64 n] 27)).alloc (.cells #[.int .i64 0, .int .i64 0, .slice none 0 0, .int .i64 0] 27))).drew.cell? ⟨w.heap.size, 2, none⟩ = some (.slice a xs.length cap) ∧ (((w.alloc (.cells #[.int .i64 r, .int .i64 s, .slice a xs.length cap, .int .i64 n] 27)).alloc (.cells #[.int .i64 0, .int .i64 0, .slice none 0 0, .int .i64 0] 27))).drew.cell? ⟨w.heap.size, 3, none⟩ = some (.int .i64 n) ∧ Gr (((w.alloc (.cells #[.int .i64 r, .int .i64 s, .slice a xs.length cap, .int .i64 n] 27)).alloc (.cells #[.int .i64 0, .int .i64 0, .slice none 0 0, .int .i64 0] 27))) (((w.alloc (.cells #[.int .i64 r, .int .i64 s, .slice a xs.length cap, .int .i64 n] 27)).alloc (.cells #[.int .i64 0, .int .i64 0, .slice none 0 0, .int .i64 0] 27))).drew none) := ⟨by simp [go_sem], by simp [go_sem], by simp [go_sem], by simp [go_sem], gr_drew (gr_refl _ _)⟩
    have HON : Hid (∀ W W' : World, (W.cell? ⟨w.heap.size, 0, none⟩ = some (.int .i64 r) ∧ W.cell? ⟨w.heap.size, 1, none⟩ = some (.int .i64 s) ∧ W.cell? ⟨w.heap.size, 2, none⟩ = some (.slice a xs.length cap) ∧ W.cell? ⟨w.heap.size, 3, none⟩ = some (.int .i64 n) ∧ Gr (((w.alloc (.cells #[.int .i64 r, .int .i64 s, .slice a xs.length cap, .int .i64 n] 27)).alloc (.cells #[.int .i64 0, .int .i64 0, .slice none 0 0, .int .i64 0] 27))) W none) → Gr W W' none → (W'.cell? ⟨w.heap.size, 0, none⟩ = some (.int .i64 r) ∧ W'.cell? ⟨w.heap.size, 1, none⟩ = some (.int .i64 s) ∧ W'.cell? ⟨w.heap.size, 2, none⟩ = some (.slice a xs.length cap) ∧ W'.cell? ⟨w.heap.size, 3, none⟩ = some (.int .i64 n) ∧ Gr (((w.alloc (.cells #[.int .i64 r, .int .i64 s, .slice a xs.length cap, .int .i64 n] 27)).alloc (.cells #[.int .i64 0, .int .i64 0, .slice none 0 0, .int .i64 0] 27))) W' none)) := fun W W' hh hg => ⟨World.grownBy.cell hg hh.1 (by simp), World.grownBy.cell hg hh.2.1 (by simp), World.grownBy.cell hg hh.2.2.1 (by simp), World.grownBy.cell hg hh.2.2.2.1 (by simp), gr_then hh.2.2.2.2 hg⟩
    have HA1 : Hid (((((w.alloc (.cells #[.int .i64 r, .int .i64 s, .slice a xs.length cap, .int .i64 n] 27)).alloc (.cells #[.int .i64 0, .int .i64 0, .slice none 0 0, .int .i64 0] 27))).alloc (.cells #[.int .i64 0, .int .i64 0, .slice none 0 0, .int .i64 0] 27)).drew.cell? ⟨w.heap.size, 0, none⟩ = some (.int .i64 r) ∧ ((((w.alloc (.cells #[.int .i64 r, .int .i64 s, .slice a xs.length cap, .int .i64 n] 27)).alloc (.cells #[.int .i64 0, .int .i64 0, .slice none 0 0, .int .i64 0] 27))).alloc (.cells #[.int .i64 0, .int .i64 0, .slice none 0 0, .int .i64 0] 27)).drew.cell? ⟨w.heap.size, 1, none⟩ = some (.int .i64 s) ∧ ((((w.alloc (.cells #[.int .i64 r, .int .i64 s, .slice a xs.length cap, .int .i64 n] 27)).alloc (.cells #[.int .i64 0, .int .i64 0, .slice none 0 0, .int .i64 0] 27))).alloc (.cells #[.int .i64 0, .int .i64 0, .slice none 0 0, .int .i64 0] 27)).drew.cell? ⟨w.heap.size, 2, none⟩ = some (.slice a xs.length cap) ∧ ((((w.alloc (.cells #[.int .i64 r, .int .i64 s, .slice a xs.length cap, .int .i64 n] 27)).alloc (.cells #[.int .i64 0, .int .i64 0, .slice none 0 0, .int .i64 0] 27))).alloc (.cells #[.int .i64 0, .int .i64 0, .slice none 0 0, .int .i64 0] 27)).drew.cell? ⟨w.heap.size, 3, none⟩ = some (.int .i64 n) ∧ Gr (((w.alloc (.cells #[.int .i64 r, .int .i64 s, .slice a xs.length cap, .int .i64 n] 27)).alloc (.cells #[.int .i64 0, .int .i64 0, .slice none 0 0, .int .i64 0] 27))) ((((w.alloc (.cells #[.int .i64 r, .int .i64 s, .slice a xs.length cap, .int .i64 n] 27)).alloc (.cells #[.int .i64 0, .int .i64 0, .slice none 0 0, .int .i64 0] 27))).alloc (.cells #[.int .i64 0, .int .i64 0, .slice none 0 0, .int .i64 0] 27)).drew none) := HON.out _ _ HK0.out (gr_da _ _)
    have HSET : Hid (∀ (W : World) (B : Nat) (x0 x1 x2 x3 : Value), (W.cell? ⟨w.heap.size, 0, none⟩ = some (.int .i64 r) ∧ W.cell? ⟨w.heap.size, 1, none⟩ = some (.int .i64 s) ∧ W.cell? ⟨w.heap.size, 2, none⟩ = some (.slice a xs.length cap) ∧ W.cell? ⟨w.heap.size, 3, none⟩ = some (.int .i64 n) ∧ Gr (((w.alloc (.cells #[.int .i64 r, .int .i64 s, .slice a xs.length cap, .int .i64 n] 27)).alloc (.cells #[.int .i64 0, .int .i64 0, .slice none 0 0, .int .i64 0] 27))) W none) → w.heap.size + 2 ≤ B → (((((W.setCell ⟨B, 0, none⟩ x0).setCell ⟨B, 1, none⟩ x1).setCell ⟨B, 2, none⟩ x2).setCell ⟨B, 3, none⟩ x3).cell? ⟨w.heap.size, 0, none⟩ = some (.int .i64 r) ∧ ((((W.setCell ⟨B, 0, none⟩ x0).setCell ⟨B, 1, none⟩ x1).setCell ⟨B, 2, none⟩ x2).setCell ⟨B, 3, none⟩ x3).cell? ⟨w.heap.size, 1, none⟩ = some (.int .i64 s) ∧ ((((W.setCell ⟨B, 0, none⟩ x0).setCell ⟨B, 1, none⟩ x1).setCell ⟨B, 2, none⟩ x2).setCell ⟨B, 3, none⟩ x3).cell? ⟨w.heap.size, 2, none⟩ = some (.slice a xs.length cap) ∧ ((((W.setCell ⟨B, 0, none⟩ x0).setCell ⟨B, 1, none⟩ x1).setCell ⟨B, 2, none⟩ x2).setCell ⟨B, 3, none⟩ x3).cell? ⟨w.heap.size, 3, none⟩ = some (.int .i64 n) ∧ Gr (((w.alloc (.cells #[.int .i64 r, .int .i64 s, .slice a xs.length cap, .int .i64 n] 27)).alloc (.cells #[.int .i64 0, .int .i64 0, .slice none 0 0, .int .i64 0] 27))) ((((W.setCell ⟨B, 0, none⟩ x0).setCell ⟨B, 1, none⟩ x1).setCell ⟨B, 2, none⟩ x2).setCell ⟨B, 3, none⟩ x3) none)) := fun W B x0 x1 x2 x3 hh hB => by
      have q := gr4 (x0 := x0) (x1 := x1) (x2 := x2) (x3 := x3) hh.2.2.2.2 (show (((w.alloc (.cells #[.int .i64 r, .int .i64 s, .slice a xs.length cap, .int .i64 n] 27)).alloc (.cells #[.int .i64 0, .int .i64 0, .slice none 0 0, .int .i64 0] 27))).heap.size ≤ B by simp; omega)
      have k := HK0.out
      exact ⟨World.grownBy.cell q k.1 (by simp), World.grownBy.cell q k.2.1 (by simp), World.grownBy.cell q k.2.2.1 (by simp), World.grownBy.cell q k.2.2.2.1 (by simp), q⟩
    have HB2 : Hid (Blk ((((w.alloc (.cells #[.int .i64 r, .int .i64 s, .slice a xs.length cap, .int .i64 n] 27)).alloc (.cells #[.int .i64 0, .int .i64 0, .slice none 0 0, .int .i64 0] 27))).alloc (.cells #[.int .i64 0, .int .i64 0, .slice none 0 0, .int .i64 0] 27)).drew (w.heap.size + 1 + 1) #[.int .i64 0, .int .i64 0, .slice none 0 0, .int .i64 0] 27) := Blk.on (show Blk ((((w.alloc (.cells #[.int .i64 r, .int .i64 s, .slice a xs.length cap, .int .i64 n] 27)).alloc (.cells #[.int .i64 0, .int .i64 0, .slice none 0 0, .int .i64 0] 27))).alloc (.cells #[.int .i64 0, .int .i64 0, .slice none 0 0, .int .i64 0] 27)) (w.heap.size + 1 + 1) _ _ by have := blk_new (((w.alloc (.cells #[.int .i64 r, .int .i64 s, .slice a xs.length cap, .int .i64 n] 27)).alloc (.cells #[.int .i64 0, .int .i64 0, .slice none 0 0, .int .i64 0] 27))) #[.int .i64 0, .int .i64 0, .slice none 0 0, .int .i64 0] 27; simpa using this) (gr_drew (gr_refl _ _))
    have HIN : Hid (∀ W : World, (W.cell? ⟨w.heap.size, 0, none⟩ = some (.int .i64 r) ∧ W.cell? ⟨w.heap.size, 1, none⟩ = some (.int .i64 s) ∧ W.cell? ⟨w.heap.size, 2, none⟩ = some (.slice a xs.length cap) ∧ W.cell? ⟨w.heap.size, 3, none⟩ = some (.int .i64 n) ∧ Gr (((w.alloc (.cells #[.int .i64 r, .int .i64 s, .slice a xs.length cap, .int .i64 n] 27)).alloc (.cells #[.int .i64 0, .int .i64 0, .slice none 0 0, .int .i64 0] 27))) W none) → Ints W (.slice a xs.length cap) xs) := fun W hh => HV.out.on (gr_then (gr_alloc (gr_alloc (gr_refl _ _) _) _) hh.2.2.2.2)
    go_cut [5] (fun q wx => ∃ B ua uc, q = .pointer (some ⟨B, 0, none⟩) ∧ Blk wx B #[.int .i64 r, .int .i64 s, .slice ua xs.length uc, .int .i64 n] 27 ∧ OwnI 3 wx (w.heap.size + 2) (.slice ua xs.length uc) xs ∧ Gr (((w.alloc (.cells #[.int .i64 r, .int .i64 s, .slice a xs.length cap, .int .i64 n] 27)).alloc (.cells #[.int .i64 0, .int .i64 0, .slice none 0 0, .int .i64 0] 27))) wx none ∧ w.heap.size + 2 ≤ B)
    case first =>
      go_region_held3 (fun w' => w'.cell? ⟨w.heap.size, 0, none⟩ = some (.int .i64 r) ∧ w'.cell? ⟨w.heap.size, 1, none⟩ = some (.int .i64 s) ∧ w'.cell? ⟨w.heap.size, 2, none⟩ = some (.slice a xs.length cap) ∧ w'.cell? ⟨w.heap.size, 3, none⟩ = some (.int .i64 n) ∧ Gr (((w.alloc (.cells #[.int .i64 r, .int .i64 s, .slice a xs.length cap, .int .i64 n] 27)).alloc (.cells #[.int .i64 0, .int .i64 0, .slice none 0 0, .int .i64 0] 27))) w' none)
        (first | with_reducible exact HK0.out | with_reducible exact s2 | with_reducible exact HA1.out | with_reducible exact HSET.out _ _ _ _ _ _ s2 (by simp) | with_reducible exact HON.out _ _ s2 (gr_alloc (gr_refl _ _) _))
        (first
          | (go_at_call 60; refine (copyInts_any _ (HIN.out _ (by assumption)) hl).mono ?_; rintro e w2 ⟨u, rfl, ou, g2⟩; obtain ⟨ua, uc, rfl⟩ := sl_own ou.2; have s2 := HON.out _ _ (by assumption) g2; try (have B2 := HB2.out.on g2; obtain ⟨t0, t1, t2, t3, q0, q1, q2, q3⟩ := cells4 B2)))
      all_goals (
        go_wp2_with fail
        go_meet
        first
          | exact ⟨_, _, _, rfl, blk_new w2 _ _, OwnI.mono (ou.on (gr_alloc (gr_refl _ _) _)) (by simp), gr_alloc s2.2.2.2.2 _, by have := gr_le s2.2.2.2.2; simp at this; omega⟩
          | exact ⟨_, _, _, rfl, blk4_set B2, OwnI.mono (own4 (B := w.heap.size + 1 + 1) ou (by simp)) (by simp), gr4 s2.2.2.2.2 (by simp), by omega⟩)
    case rest =>
      obtain ⟨B, ua, uc, rfl, hB, hO, hG, hBs⟩ := hcut
      have HX := hid (And.intro hB (And.intro (RB.out.on hG) (And.intro hO (gr_then (gr_alloc (gr_alloc (gr_refl w none) _) _) hG))))
      obtain ⟨p0, p1, p2, p3, lA⟩ := ((yBox_new w 27 r s (.slice a xs.length cap) n).on (gr_alloc (gr_refl _ _) (.cells #[.int .i64 0, .int .i64 0, .slice none 0 0, .int .i64 0] 27))).on hG
      have KP := hid p1
      clear hB hO hG HK0 HON HA1 HSET HB2 HIN
      go_wp2_with fail
      refine (yearOk_any _ _ _ _ (HV.out.on HX.out.2.2.2)).mono ?_
      rw [HY.out]
      rintro e w2 ⟨rfl, g2⟩
      have B2 := hid (HX.out.1.on g2)
      have R2 := hid (HX.out.2.1.on g2)
      have O2 := hid (HX.out.2.2.1.on g2)
      have G2 := hid (gr_then HX.out.2.2.2 g2)
      obtain ⟨m0, m1, m2, m3, n0, n1, n2, n3⟩ := cells4 B2.out
      obtain ⟨t0, t1, t2, t3, q0, q1, q2, q3⟩ := cells4 R2.out
      have k1 := World.grownBy.cell g2 KP.out (by simp)
      clear g2 p0 p1 p2 p3 lA
      have c1 := Go.Joins.block_setCell B2.out (i := 0) (.int .i64 m)
      have c2 := Go.Joins.block_setCell c1 (i := 1) (.int .i64 m)
      have C2 : Blk ((w2.setCell ⟨B, 0, none⟩ (.int .i64 m)).setCell ⟨B, 1, none⟩ (.int .i64 m)) (B) #[.int .i64 m, .int .i64 m, .slice ua xs.length uc, .int .i64 n] 27 := by unfold Blk; simpa using c2
      have D2 : Blk ((w2.setCell ⟨B, 0, none⟩ (.int .i64 m)).setCell ⟨B, 1, none⟩ (.int .i64 m)) (w.heap.size + 1) #[.int .i64 0, .int .i64 0, .slice none 0 0, .int .i64 0] 27 := blk_set (blk_set R2.out (by omega)) (by omega)
      have HC2 := hid C2
      have HD2 := hid D2
      obtain ⟨u0, u1, u2, u3, -⟩ := cells4 C2
      obtain ⟨v0, v1, v2, v3, y0, y1, y2, y3⟩ := cells4 D2
      have o5 := O2.out.kept (gr_set (p := ⟨B, 1, none⟩) (gr_set (p := ⟨B, 0, none⟩) (gr_refl w2 (some (B))) (.inl rfl) (.int .i64 m)) (.inl rfl) (.int .i64 m)) (.inr (own_ne_blk O2.out.2 B2.out (by decide)))
      have HO5 := hid o5
      have k1' := set_other (q := ⟨B, 0, none⟩) (v := .int .i64 m) (by intro e; have := congrArg Addr.block e; simp at this; try omega) k1
      have hne1 : (⟨B, 0, none⟩ : Addr) ≠ ⟨w.heap.size, 1, none⟩ := by simp
      have G5 := hid (gr_set (p := ⟨B, 1, none⟩) (gr_set (p := ⟨B, 0, none⟩) G2.out (.inr (by simp; omega)) (.int .i64 m)) (.inr (by simp; omega)) (.int .i64 m))
      clear c1 c2 C2 D2 o5
      go_wp2_with (go_at_call 55; refine (within_any _ _ _ _).mono ?_; rw [HM.out]; rintro e w' ⟨rfl, rfl⟩)
      have bF := blk4_set (x0 := .int .i64 m) (x1 := .int .i64 m) (x2 := .slice ua xs.length uc) (x3 := .int .i64 n) HD2.out
      obtain ⟨e0, e1, e2, e3, -⟩ := cells4 bF
      exact bodyPost_ret (v := .agg #[.int .i64 m, .int .i64 m, .slice ua xs.length uc, .int .i64 n]) (by simp [results, Try.results25, go_sem, e0, e1, e2, e3]) rfl ⟨_, rfl, OwnI.mono (own4 (B := w.heap.size + 1) HO5.out (by omega)) (by omega), gr4 G5.out (by omega)⟩
  · rw [show min s m = s from by omega]
    have hge : s ≤ m := by omega
    go_enter Try.func25, Try.ntmps25
    go_upto_region 1 with fail
    have RB := hid (show Blk ((w.alloc (.cells #[.int .i64 r, .int .i64 s, .slice a xs.length cap, .int .i64 n] 27)).alloc (.cells #[.int .i64 0, .int .i64 0, .slice none 0 0, .int .i64 0] 27)) (w.heap.size + 1) #[.int .i64 0, .int .i64 0, .slice none 0 0, .int .i64 0] 27 by have := blk_new (w.alloc (.cells #[.int .i64 r, .int .i64 s, .slice a xs.length cap, .int .i64 n] 27)) #[.int .i64 0, .int .i64 0, .slice none 0 0, .int .i64 0] 27; simpa using this)
    have HK0 : Hid ((((w.alloc (.cells #[.int .i64 r, .int .i64 s, .slice a xs.length cap, .int .i64 n] 27)).alloc (.cells #[.int .i64 0, .int .i64 0, .slice none 0 0, .int .i64 0] 27))).drew.cell? ⟨w.heap.size, 0, none⟩ = some (.int .i64 r) ∧ (((w.alloc (.cells #[.int .i64 r, .int .i64 s, .slice a xs.length cap, .int .i64 n] 27)).alloc (.cells #[.int .i64 0, .int .i64 0, .slice none 0 0, .int .i64 0] 27))).drew.cell? ⟨w.heap.size, 1, none⟩ = some (.int .i64 s) ∧ (((w.alloc (.cells #[.int .i64 r, .int .i64 s, .slice a xs.length cap, .int .i64 n] 27)).alloc (.cells #[.int .i64 0, .int .i64 0, .slice none 0 0, .int .i64 0] 27))).drew.cell? ⟨w.heap.size, 2, none⟩ = some (.slice a xs.length cap) ∧ (((w.alloc (.cells #[.int .i64 r, .int .i64 s, .slice a xs.length cap, .int .i64 n] 27)).alloc (.cells #[.int .i64 0, .int .i64 0, .slice none 0 0, .int .i64 0] 27))).drew.cell? ⟨w.heap.size, 3, none⟩ = some (.int .i64 n) ∧ Gr (((w.alloc (.cells #[.int .i64 r, .int .i64 s, .slice a xs.length cap, .int .i64 n] 27)).alloc (.cells #[.int .i64 0, .int .i64 0, .slice none 0 0, .int .i64 0] 27))) (((w.alloc (.cells #[.int .i64 r, .int .i64 s, .slice a xs.length cap, .int .i64 n] 27)).alloc (.cells #[.int .i64 0, .int .i64 0, .slice none 0 0, .int .i64 0] 27))).drew none) := ⟨by simp [go_sem], by simp [go_sem], by simp [go_sem], by simp [go_sem], gr_drew (gr_refl _ _)⟩
    have HON : Hid (∀ W W' : World, (W.cell? ⟨w.heap.size, 0, none⟩ = some (.int .i64 r) ∧ W.cell? ⟨w.heap.size, 1, none⟩ = some (.int .i64 s) ∧ W.cell? ⟨w.heap.size, 2, none⟩ = some (.slice a xs.length cap) ∧ W.cell? ⟨w.heap.size, 3, none⟩ = some (.int .i64 n) ∧ Gr (((w.alloc (.cells #[.int .i64 r, .int .i64 s, .slice a xs.length cap, .int .i64 n] 27)).alloc (.cells #[.int .i64 0, .int .i64 0, .slice none 0 0, .int .i64 0] 27))) W none) → Gr W W' none → (W'.cell? ⟨w.heap.size, 0, none⟩ = some (.int .i64 r) ∧ W'.cell? ⟨w.heap.size, 1, none⟩ = some (.int .i64 s) ∧ W'.cell? ⟨w.heap.size, 2, none⟩ = some (.slice a xs.length cap) ∧ W'.cell? ⟨w.heap.size, 3, none⟩ = some (.int .i64 n) ∧ Gr (((w.alloc (.cells #[.int .i64 r, .int .i64 s, .slice a xs.length cap, .int .i64 n] 27)).alloc (.cells #[.int .i64 0, .int .i64 0, .slice none 0 0, .int .i64 0] 27))) W' none)) := fun W W' hh hg => ⟨World.grownBy.cell hg hh.1 (by simp), World.grownBy.cell hg hh.2.1 (by simp), World.grownBy.cell hg hh.2.2.1 (by simp), World.grownBy.cell hg hh.2.2.2.1 (by simp), gr_then hh.2.2.2.2 hg⟩
    have HA1 : Hid (((((w.alloc (.cells #[.int .i64 r, .int .i64 s, .slice a xs.length cap, .int .i64 n] 27)).alloc (.cells #[.int .i64 0, .int .i64 0, .slice none 0 0, .int .i64 0] 27))).alloc (.cells #[.int .i64 0, .int .i64 0, .slice none 0 0, .int .i64 0] 27)).drew.cell? ⟨w.heap.size, 0, none⟩ = some (.int .i64 r) ∧ ((((w.alloc (.cells #[.int .i64 r, .int .i64 s, .slice a xs.length cap, .int .i64 n] 27)).alloc (.cells #[.int .i64 0, .int .i64 0, .slice none 0 0, .int .i64 0] 27))).alloc (.cells #[.int .i64 0, .int .i64 0, .slice none 0 0, .int .i64 0] 27)).drew.cell? ⟨w.heap.size, 1, none⟩ = some (.int .i64 s) ∧ ((((w.alloc (.cells #[.int .i64 r, .int .i64 s, .slice a xs.length cap, .int .i64 n] 27)).alloc (.cells #[.int .i64 0, .int .i64 0, .slice none 0 0, .int .i64 0] 27))).alloc (.cells #[.int .i64 0, .int .i64 0, .slice none 0 0, .int .i64 0] 27)).drew.cell? ⟨w.heap.size, 2, none⟩ = some (.slice a xs.length cap) ∧ ((((w.alloc (.cells #[.int .i64 r, .int .i64 s, .slice a xs.length cap, .int .i64 n] 27)).alloc (.cells #[.int .i64 0, .int .i64 0, .slice none 0 0, .int .i64 0] 27))).alloc (.cells #[.int .i64 0, .int .i64 0, .slice none 0 0, .int .i64 0] 27)).drew.cell? ⟨w.heap.size, 3, none⟩ = some (.int .i64 n) ∧ Gr (((w.alloc (.cells #[.int .i64 r, .int .i64 s, .slice a xs.length cap, .int .i64 n] 27)).alloc (.cells #[.int .i64 0, .int .i64 0, .slice none 0 0, .int .i64 0] 27))) ((((w.alloc (.cells #[.int .i64 r, .int .i64 s, .slice a xs.length cap, .int .i64 n] 27)).alloc (.cells #[.int .i64 0, .int .i64 0, .slice none 0 0, .int .i64 0] 27))).alloc (.cells #[.int .i64 0, .int .i64 0, .slice none 0 0, .int .i64 0] 27)).drew none) := HON.out _ _ HK0.out (gr_da _ _)
    have HSET : Hid (∀ (W : World) (B : Nat) (x0 x1 x2 x3 : Value), (W.cell? ⟨w.heap.size, 0, none⟩ = some (.int .i64 r) ∧ W.cell? ⟨w.heap.size, 1, none⟩ = some (.int .i64 s) ∧ W.cell? ⟨w.heap.size, 2, none⟩ = some (.slice a xs.length cap) ∧ W.cell? ⟨w.heap.size, 3, none⟩ = some (.int .i64 n) ∧ Gr (((w.alloc (.cells #[.int .i64 r, .int .i64 s, .slice a xs.length cap, .int .i64 n] 27)).alloc (.cells #[.int .i64 0, .int .i64 0, .slice none 0 0, .int .i64 0] 27))) W none) → w.heap.size + 2 ≤ B → (((((W.setCell ⟨B, 0, none⟩ x0).setCell ⟨B, 1, none⟩ x1).setCell ⟨B, 2, none⟩ x2).setCell ⟨B, 3, none⟩ x3).cell? ⟨w.heap.size, 0, none⟩ = some (.int .i64 r) ∧ ((((W.setCell ⟨B, 0, none⟩ x0).setCell ⟨B, 1, none⟩ x1).setCell ⟨B, 2, none⟩ x2).setCell ⟨B, 3, none⟩ x3).cell? ⟨w.heap.size, 1, none⟩ = some (.int .i64 s) ∧ ((((W.setCell ⟨B, 0, none⟩ x0).setCell ⟨B, 1, none⟩ x1).setCell ⟨B, 2, none⟩ x2).setCell ⟨B, 3, none⟩ x3).cell? ⟨w.heap.size, 2, none⟩ = some (.slice a xs.length cap) ∧ ((((W.setCell ⟨B, 0, none⟩ x0).setCell ⟨B, 1, none⟩ x1).setCell ⟨B, 2, none⟩ x2).setCell ⟨B, 3, none⟩ x3).cell? ⟨w.heap.size, 3, none⟩ = some (.int .i64 n) ∧ Gr (((w.alloc (.cells #[.int .i64 r, .int .i64 s, .slice a xs.length cap, .int .i64 n] 27)).alloc (.cells #[.int .i64 0, .int .i64 0, .slice none 0 0, .int .i64 0] 27))) ((((W.setCell ⟨B, 0, none⟩ x0).setCell ⟨B, 1, none⟩ x1).setCell ⟨B, 2, none⟩ x2).setCell ⟨B, 3, none⟩ x3) none)) := fun W B x0 x1 x2 x3 hh hB => by
      have q := gr4 (x0 := x0) (x1 := x1) (x2 := x2) (x3 := x3) hh.2.2.2.2 (show (((w.alloc (.cells #[.int .i64 r, .int .i64 s, .slice a xs.length cap, .int .i64 n] 27)).alloc (.cells #[.int .i64 0, .int .i64 0, .slice none 0 0, .int .i64 0] 27))).heap.size ≤ B by simp; omega)
      have k := HK0.out
      exact ⟨World.grownBy.cell q k.1 (by simp), World.grownBy.cell q k.2.1 (by simp), World.grownBy.cell q k.2.2.1 (by simp), World.grownBy.cell q k.2.2.2.1 (by simp), q⟩
    have HB2 : Hid (Blk ((((w.alloc (.cells #[.int .i64 r, .int .i64 s, .slice a xs.length cap, .int .i64 n] 27)).alloc (.cells #[.int .i64 0, .int .i64 0, .slice none 0 0, .int .i64 0] 27))).alloc (.cells #[.int .i64 0, .int .i64 0, .slice none 0 0, .int .i64 0] 27)).drew (w.heap.size + 1 + 1) #[.int .i64 0, .int .i64 0, .slice none 0 0, .int .i64 0] 27) := Blk.on (show Blk ((((w.alloc (.cells #[.int .i64 r, .int .i64 s, .slice a xs.length cap, .int .i64 n] 27)).alloc (.cells #[.int .i64 0, .int .i64 0, .slice none 0 0, .int .i64 0] 27))).alloc (.cells #[.int .i64 0, .int .i64 0, .slice none 0 0, .int .i64 0] 27)) (w.heap.size + 1 + 1) _ _ by have := blk_new (((w.alloc (.cells #[.int .i64 r, .int .i64 s, .slice a xs.length cap, .int .i64 n] 27)).alloc (.cells #[.int .i64 0, .int .i64 0, .slice none 0 0, .int .i64 0] 27))) #[.int .i64 0, .int .i64 0, .slice none 0 0, .int .i64 0] 27; simpa using this) (gr_drew (gr_refl _ _))
    have HIN : Hid (∀ W : World, (W.cell? ⟨w.heap.size, 0, none⟩ = some (.int .i64 r) ∧ W.cell? ⟨w.heap.size, 1, none⟩ = some (.int .i64 s) ∧ W.cell? ⟨w.heap.size, 2, none⟩ = some (.slice a xs.length cap) ∧ W.cell? ⟨w.heap.size, 3, none⟩ = some (.int .i64 n) ∧ Gr (((w.alloc (.cells #[.int .i64 r, .int .i64 s, .slice a xs.length cap, .int .i64 n] 27)).alloc (.cells #[.int .i64 0, .int .i64 0, .slice none 0 0, .int .i64 0] 27))) W none) → Ints W (.slice a xs.length cap) xs) := fun W hh => HV.out.on (gr_then (gr_alloc (gr_alloc (gr_refl _ _) _) _) hh.2.2.2.2)
    go_cut [5] (fun q wx => ∃ B ua uc, q = .pointer (some ⟨B, 0, none⟩) ∧ Blk wx B #[.int .i64 r, .int .i64 s, .slice ua xs.length uc, .int .i64 n] 27 ∧ OwnI 3 wx (w.heap.size + 2) (.slice ua xs.length uc) xs ∧ Gr (((w.alloc (.cells #[.int .i64 r, .int .i64 s, .slice a xs.length cap, .int .i64 n] 27)).alloc (.cells #[.int .i64 0, .int .i64 0, .slice none 0 0, .int .i64 0] 27))) wx none ∧ w.heap.size + 2 ≤ B)
    case first =>
      go_region_held3 (fun w' => w'.cell? ⟨w.heap.size, 0, none⟩ = some (.int .i64 r) ∧ w'.cell? ⟨w.heap.size, 1, none⟩ = some (.int .i64 s) ∧ w'.cell? ⟨w.heap.size, 2, none⟩ = some (.slice a xs.length cap) ∧ w'.cell? ⟨w.heap.size, 3, none⟩ = some (.int .i64 n) ∧ Gr (((w.alloc (.cells #[.int .i64 r, .int .i64 s, .slice a xs.length cap, .int .i64 n] 27)).alloc (.cells #[.int .i64 0, .int .i64 0, .slice none 0 0, .int .i64 0] 27))) w' none)
        (first | with_reducible exact HK0.out | with_reducible exact s2 | with_reducible exact HA1.out | with_reducible exact HSET.out _ _ _ _ _ _ s2 (by simp) | with_reducible exact HON.out _ _ s2 (gr_alloc (gr_refl _ _) _))
        (first
          | (go_at_call 60; refine (copyInts_any _ (HIN.out _ (by assumption)) hl).mono ?_; rintro e w2 ⟨u, rfl, ou, g2⟩; obtain ⟨ua, uc, rfl⟩ := sl_own ou.2; have s2 := HON.out _ _ (by assumption) g2; try (have B2 := HB2.out.on g2; obtain ⟨t0, t1, t2, t3, q0, q1, q2, q3⟩ := cells4 B2)))
      all_goals (
        go_wp2_with fail
        go_meet
        first
          | exact ⟨_, _, _, rfl, blk_new w2 _ _, OwnI.mono (ou.on (gr_alloc (gr_refl _ _) _)) (by simp), gr_alloc s2.2.2.2.2 _, by have := gr_le s2.2.2.2.2; simp at this; omega⟩
          | exact ⟨_, _, _, rfl, blk4_set B2, OwnI.mono (own4 (B := w.heap.size + 1 + 1) ou (by simp)) (by simp), gr4 s2.2.2.2.2 (by simp), by omega⟩)
    case rest =>
      obtain ⟨B, ua, uc, rfl, hB, hO, hG, hBs⟩ := hcut
      have HX := hid (And.intro hB (And.intro (RB.out.on hG) (And.intro hO (gr_then (gr_alloc (gr_alloc (gr_refl w none) _) _) hG))))
      obtain ⟨p0, p1, p2, p3, lA⟩ := ((yBox_new w 27 r s (.slice a xs.length cap) n).on (gr_alloc (gr_refl _ _) (.cells #[.int .i64 0, .int .i64 0, .slice none 0 0, .int .i64 0] 27))).on hG
      have KP := hid p1
      clear hB hO hG HK0 HON HA1 HSET HB2 HIN
      go_wp2_with fail
      refine (yearOk_any _ _ _ _ (HV.out.on HX.out.2.2.2)).mono ?_
      rw [HY.out]
      rintro e w2 ⟨rfl, g2⟩
      have B2 := hid (HX.out.1.on g2)
      have R2 := hid (HX.out.2.1.on g2)
      have O2 := hid (HX.out.2.2.1.on g2)
      have G2 := hid (gr_then HX.out.2.2.2 g2)
      obtain ⟨m0, m1, m2, m3, n0, n1, n2, n3⟩ := cells4 B2.out
      obtain ⟨t0, t1, t2, t3, q0, q1, q2, q3⟩ := cells4 R2.out
      have k1 := World.grownBy.cell g2 KP.out (by simp)
      clear g2 p0 p1 p2 p3 lA
      have c1 := Go.Joins.block_setCell B2.out (i := 0) (.int .i64 m)
      have c2 := Go.Joins.block_setCell c1 (i := 1) (.int .i64 s)
      have C2 : Blk ((w2.setCell ⟨B, 0, none⟩ (.int .i64 m)).setCell ⟨B, 1, none⟩ (.int .i64 s)) (B) #[.int .i64 m, .int .i64 s, .slice ua xs.length uc, .int .i64 n] 27 := by unfold Blk; simpa using c2
      have D2 : Blk ((w2.setCell ⟨B, 0, none⟩ (.int .i64 m)).setCell ⟨B, 1, none⟩ (.int .i64 s)) (w.heap.size + 1) #[.int .i64 0, .int .i64 0, .slice none 0 0, .int .i64 0] 27 := blk_set (blk_set R2.out (by omega)) (by omega)
      have HC2 := hid C2
      have HD2 := hid D2
      obtain ⟨u0, u1, u2, u3, -⟩ := cells4 C2
      obtain ⟨v0, v1, v2, v3, y0, y1, y2, y3⟩ := cells4 D2
      have o5 := O2.out.kept (gr_set (p := ⟨B, 1, none⟩) (gr_set (p := ⟨B, 0, none⟩) (gr_refl w2 (some (B))) (.inl rfl) (.int .i64 m)) (.inl rfl) (.int .i64 s)) (.inr (own_ne_blk O2.out.2 B2.out (by decide)))
      have HO5 := hid o5
      have k1' := set_other (q := ⟨B, 0, none⟩) (v := .int .i64 m) (by intro e; have := congrArg Addr.block e; simp at this; try omega) k1
      have hne1 : (⟨B, 0, none⟩ : Addr) ≠ ⟨w.heap.size, 1, none⟩ := by simp
      have G5 := hid (gr_set (p := ⟨B, 1, none⟩) (gr_set (p := ⟨B, 0, none⟩) G2.out (.inr (by simp; omega)) (.int .i64 m)) (.inr (by simp; omega)) (.int .i64 s))
      clear c1 c2 C2 D2 o5
      go_wp2_with (go_at_call 55; refine (within_any _ _ _ _).mono ?_; rw [HM.out]; rintro e w' ⟨rfl, rfl⟩)
      have bF := blk4_set (x0 := .int .i64 m) (x1 := .int .i64 s) (x2 := .slice ua xs.length uc) (x3 := .int .i64 n) HD2.out
      obtain ⟨e0, e1, e2, e3, -⟩ := cells4 bF
      exact bodyPost_ret (v := .agg #[.int .i64 m, .int .i64 s, .slice ua xs.length uc, .int .i64 n]) (by simp [results, Try.results25, go_sem, e0, e1, e2, e3]) rfl ⟨_, rfl, OwnI.mono (own4 (B := w.heap.size + 1) HO5.out (by omega)) (by omega), gr4 G5.out (by omega)⟩
end Go.Proofs.Ytmnfainepmnpeaa
