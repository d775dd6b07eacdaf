/- The law over a drawn chain, walked; its loops are declarations of their own. -/
import Derived.Test.YtbmgmolnknnaiaaChnP1
import Derived.Test.YtbmgmolnknnaiaaChnP2
import Derived.Test.YtbmgmolnknnaiaaChnP3
namespace Go.Proofs.Ytbmgmolnknnaiaa
open Go.RowKit

set_option maxRecDepth 100000 in
set_option maxHeartbeats 40000000 in
theorem walk_FnChains (v : Value) (n : Nat) (w : World) (h : BytesN w v n) :
    Calls Try.prog 5 #[v] w fun e w' => e = .returned (.bool true) ∧ Gr w w' none := by
  obtain ⟨a0, cap0, rfl, _⟩ := id h
  by_cases hn : n ≤ 1048576
  case neg =>
    have hb : decide (1048576 < (n : Int)) = true := by simp; omega
    go_enter Try.func5, Try.ntmps5
    go_wp2_with fail
    refine (big_any _ h).mono ?_
    rw [hb]
    rintro e w' ⟨rfl, rfl⟩
    go_wp2
    go_ret
    exact ⟨rfl, gr_refl _ _⟩
  case pos =>
  have hb : decide (1048576 < (n : Int)) = false := by simp; omega
  have H := hid h
  clear h
  go_enter Try.func5, Try.ntmps5
  go_wp2_with fail
  refine (big_any _ H.out).mono ?_
  rw [hb]
  rintro e w' ⟨rfl, rfl⟩
  clear hb
  go_wp2_with fail
  refine (drawChain_any _ H.out hn).mono ?_
  rintro e w1 ⟨u, v, ps, xs, rfl, hc, hl6, hu, hv, g1⟩
  obtain ⟨⟨hp1, hp2⟩, hxl, -, hci, -⟩ := chainB_parts hc
  obtain ⟨pb, po, pc, xb, xo, xc, rfl, rfl, hW⟩ := chW_new 41 hu.pairs hv.ints (by omega) (by omega)
  have G1 := gr_alloc g1 (.cells #[.slice (some ⟨pb, po, none⟩) ps.length pc, .slice (some ⟨xb, xo, none⟩) xs.length xc] 41)
  have HWU := hid hW
  have HC := hid hc
  have HXL := hid hxl
  have hx1 : 1 ≤ (xs.length : Int) := by omega
  have hx6 : (xs.length : Int) ≤ 6 := by omega
  clear hu hv g1 hc hxl
  go_upto_region 4 with fail
  clear HWU
  generalize hW1 : w1.alloc (.cells #[.slice (some ⟨pb, po, none⟩) ps.length pc, .slice (some ⟨xb, xo, none⟩) xs.length xc] 41) = W1 at hW G1 ⊢
  clear hW1
  obtain ⟨A, A0, A1, hA⟩ := at_fix 0 _ (bytesN_kept' H.out G1 (by intro j e; cases e)) (by omega) (by omega)
  obtain ⟨B, B0, B1, hB⟩ := at_fix 1 _ (bytesN_kept' H.out G1 (by intro j e; cases e)) (by omega) (by omega)
  have HA := hid hA
  have HB := hid hB
  have HG1 := hid G1
  generalize hPB : w1.heap.size = PB at hW ⊢
  have HW1 := hid hW
  clear hW H hA hB hci hn hPB G1
  have HAq : Hid (∀ W, Gr W1 W none → Calls Try.prog 12 #[.slice a0 n cap0, .int .i64 0] W fun e w' => e = .returned (.int .i64 A) ∧ Gr W w' none) := fun W g => (HA.out W g).mono fun e w' hh => ⟨hh.1, by rw [hh.2]; exact gr_refl _ _⟩
  have c1 := HW1.out.c1
  have c1s := fun s : Gw W1 => cell_on s.h c1
  have hn0 : ((xs.length : Int) == 0) = false := by rw [beq_eq_false_iff_ne]; omega
  have hn6 : (ps.length : Int) ≤ 6 := by omega
  have hn1 : 1 ≤ (ps.length : Int) := by omega
  clear c1 HA
  refine region_gw (w0 := W1) (by kernel_rfl) (by kernel_rfl) (by kernel_rfl) ?_
  repeat (first | go_big_quiet_skip | (go_big_quiet_want; go_big_quiet_op; first | go_big_quiet_on | (apply Exists.intro; refine ⟨fun s => ?_, ?_⟩; (focus (first | (with_reducible exact gw_call s (HAq.out s.w s.h)))); go_big_quiet_on)))
  refine wpQuiet_nil ?_
  rintro W2 ⟨⟨_, g2⟩, rfl⟩
  try dsimp only
  have hk0 := Int.emod_nonneg A (show (xs.length : Int) ≠ 0 by omega)
  have hk1 := Int.emod_lt_of_pos A (show 0 < (xs.length : Int) by omega)
  generalize A % (xs.length : Int) = K at hk0 hk1 ⊢
  obtain ⟨k, rfl⟩ := Int.eq_ofNat_of_zero_le hk0
  have HW2 := hid (HW1.out.on g2)
  have HG2 := hid (gr_then HG1.out g2)
  have hkp : k < ps.length := by have := HXL.out; omega
  obtain ⟨X, O, N, NX, R, ys, eP, eN, eX, eR, eW, hF⟩ := chFacts HC.out hkp (x := B * 3) (by omega) (by omega)
  have HF := hid hF
  have EP := hid eP
  have EN := hid eN
  have EX := hid eX
  have ER := hid eR
  have EW := hid eW
  have H2 := hid g2
  clear HW1 HG1 c1s hn0 hn1 HAq g2 hk0 hkp hF eP eN eX eR eW A0 A1 hp1 hp2 hl6
  go_wp2_with fail
  refine (HB.out _ H2.out).mono ?_
  rintro e w' ⟨rfl, rfl⟩
  have c0 := HW2.out.c0
  have c1 := HW2.out.c1
  clear HB H2
  go_wp2_with fail
  refine (pourInto_any k (B * 3) _ HW2.out.pi HW2.out.xi (by omega) (by omega)).mono ?_
  rw [EP.out]
  rintro e w3 ⟨u', v', rfl, hu', hv', g3⟩
  dsimp only at hu' ⊢
  have hXl : 1 ≤ X.length := by have := HF.out.lenX; have := HF.out.len1; have := HF.out.len2; omega
  obtain ⟨qb, qo, qc, yb, yo, yc, rfl, rfl, hX⟩ := chW_new 41 hu'.pairs hv'.ints hXl (by omega)
  have HX3 := hid hX
  have HW3 := hid ((HW2.out.on g3).on (gr_alloc (gr_refl _ _) (.cells #[.slice (some ⟨qb, qo, none⟩) X.length qc, .slice (some ⟨yb, yo, none⟩) xs.length yc] 41)))
  have HG3 := hid (gr_alloc (gr_then HG2.out g3) (.cells #[.slice (some ⟨qb, qo, none⟩) X.length qc, .slice (some ⟨yb, yo, none⟩) xs.length yc] 41))
  clear hX hu' hv' g3 c0 c1 HW2 HG2 EP
  have c0 := HW3.out.c0
  have c1 := HW3.out.c1
  go_upto_region 7 with fail
  generalize hW3 : w3.alloc (.cells #[.slice (some ⟨qb, qo, none⟩) X.length qc, .slice (some ⟨yb, yo, none⟩) xs.length yc] 41) = W3 at *
  generalize hPX : w3.heap.size = PX at *
  clear hW3 hPX
  go_wp2_with fail
  refine (totalLevel_any _ HW3.out.pi HW3.out.xi).mono ?_
  rw [EN.out]
  rintro e W4 ⟨rfl, g4⟩
  have HW4 := hid (HW3.out.on g4)
  have HX4 := hid (HX3.out.on g4)
  have HG4 := hid (gr_then HG3.out g4)
  clear c0 c1 HW3 HX3 HG3 g4 EN
  have c0 := HW4.out.c0
  have c1 := HW4.out.c1
  go_wp2_with fail
  refine (roomFrom_any _ _ HW4.out.pi HW4.out.xi).mono ?_
  rw [ER.out]
  rintro e W5 ⟨rfl, g5⟩
  have HW5 := hid (HW4.out.on g5)
  have HX5 := hid (HX4.out.on g5)
  have HG5 := hid (gr_then HG4.out g5)
  clear c0 c1 HW4 HX4 HG4 g5 ER
  have c0 := HW5.out.c0
  have c1 := HW5.out.c1
  go_wp2_with fail
  refine (wayOf_any _ _ HW5.out.pi HW5.out.xi).mono ?_
  rw [EW.out]
  rintro e W6 ⟨uw, rfl, ow, g6⟩
  have HW6 := hid (HW5.out.on g6)
  have HX6 := hid (HX5.out.on g6)
  have HG6 := hid (gr_then HG5.out g6)
  obtain ⟨_, aw, cw, rfl, hcw, hmw, hatw⟩ := id ow.ints
  obtain ⟨wb, wo, rfl, hwc⟩ : ∃ b off, aw = some ⟨b, off, none⟩ ∧ IntsAt W6 b off ys := by
    rcases hatw with h0 | h0
    · have := HF.out.len1
      subst h0; simp at this
    · exact h0
  have HY6 := hid ow.ints
  have HYC := hid hwc
  clear c0 c1 HW5 HX5 HG5 g6 EW hatw hwc ow
  go_upto_region 10 with fail
  have HTX : Hid (∀ W, Gr W6 W none → Calls Try.prog 20 #[.agg #[.slice (some ⟨qb, qo, none⟩) X.length qc, .slice (some ⟨yb, yo, none⟩) xs.length yc]] W fun e w' => e = .returned (.int .i64 NX) ∧ Gr W w' none) := fun W g => by
    have := totalLevel_any W (HX6.out.pi.on g) (HX6.out.xi.on g)
    rwa [EX.out] at this
  have y0 : W6.cell? ⟨wb, wo, none⟩ = some (.int .i64 k) := by have := HYC.out 0 HF.out.len1; rw [HF.out.first] at this; exact this
  have c0 := HW6.out.c0
  have c1 := HW6.out.c1
  have x0 := HX6.out.c0
  have x1 := HX6.out.c1
  obtain ⟨f1, f2, f3, f4, f5, f6⟩ := HF.out.pos
  obtain ⟨r1, r2⟩ := HF.out.room
  have fs := HF.out.sum
  have fl := HF.out.left
  have hy1 := HF.out.len1
  have d1 : decide (N < 0) = false := by simp; omega
  have d2 : decide (O < 0) = false := by simp; omega
  have d3 : ((X.length : Int) != (ps.length : Int)) = false := by rw [HF.out.lenX]; simp
  have d4 : (NX + O != N + B * 3) = false := by rw [fs]; simp
  have d5 : (O != if R < B * 3 then B * 3 - R else 0) = false := by
    have : O = if R < B * 3 then B * 3 - R else 0 := by rw [fl]; split <;> omega
    rw [← this]; simp
  have d6 : ((ys.length : Int) == 0) = false := by rw [beq_eq_false_iff_ne]; omega
  have HY0 := hid y0
  clear y0 fs fl
  go_wp2_with fail
  refine (HTX.out _ (gr_refl _ _)).mono ?_
  rintro e W7 ⟨rfl, g7⟩
  have y0 := cell_on g7 HY0.out
  have HW7 := hid (HW6.out.on g7)
  have HX7 := hid (HX6.out.on g7)
  have HY7 := hid (HY6.out.on g7)
  have HYC7 := hid (HYC.out.kept g7 (by simp))
  have HG7 := hid (gr_then HG6.out g7)
  clear c0 c1 x0 x1 HW6 HX6 HY6 HYC HG6 g7 HTX HY0
  go_upto_if 87 with fail
  clear d1 d2 d3 d4 d5 d6 y0 f1 f2 f3 f4 f5 f6 r1 r2 hn6 hXl
  generalize (if R < B * 3 then B * 3 - R else 0) = M
  have hyl : ys.length ≤ 10 := by have := HF.out.len2; have := HXL.out; omega
  go_upto_region 12 with fail
  go_cut [11] from 15 (fun i wx => i = .int .i64 0 ∧ W7 = wx)
  case first =>
    go_wp2
    go_meet
    exact ⟨rfl, rfl⟩
  case rest =>
  obtain ⟨rfl, rfl⟩ := hcut
  go_wp2_with fail
  refine chnLoop1 HW7 HYC7 HF (hid (by have := HXL.out; omega)) hx6 hyl hy1 ?_
  refine hid ?_
  intro W8 g8
  intros
  have HW8 := hid (HW7.out.on g8)
  have HX8 := hid (HX7.out.on g8)
  have HY8 := hid (HY7.out.on g8)
  have HYC8 := hid (HYC7.out.kept g8 (by simp))
  have HG8 := hid (gr_then HG7.out g8)
  clear g8 HW7 HX7 HY7 HYC7 HG7
  go_upto_region 17 with fail
  go_cut [12] from 15 (fun i wx => i = .int .i64 0 ∧ W8 = wx)
  case first =>
    go_wp2
    go_meet
    exact ⟨rfl, rfl⟩
  case rest =>
  obtain ⟨rfl, rfl⟩ := hcut
  have hpl : ps.length ≤ 6 := by have := HXL.out; omega
  go_wp2_with fail
  refine chnLoop2 HW8 HX8 HY8 HF hpl hyl ?_
  refine hid ?_
  intro W9 g9
  intros
  have HW9 := hid (HW8.out.on g9)
  have HX9 := hid (HX8.out.on g9)
  have HY9 := hid (HY8.out.on g9)
  have HYC9 := hid (HYC8.out.kept g9 (by simp))
  have HG9 := hid (gr_then HG8.out g9)
  clear g9 HW8 HX8 HY8 HYC8 HG8
  go_upto_region 22 with fail
  go_cut [13] from 15 (fun i wx => i = .int .i64 1 ∧ W9 = wx)
  case first =>
    go_wp2
    go_meet
    exact ⟨rfl, rfl⟩
  case rest =>
  obtain ⟨rfl, rfl⟩ := hcut
  go_wp2_with fail
  refine chnLoop3 HW9 HX9 HYC9 HF hpl hyl hy1 ?_
  refine hid ?_
  intro W10 g10
  intros
  have HW10 := hid (HW9.out.on g10)
  have HX10 := hid (HX9.out.on g10)
  have HG10 := hid (gr_then HG9.out g10)
  clear g10 HW9 HX9 HY9 HYC9 HG9
  go_upto_region 28 with fail
  have c0 := HW10.out.c0
  have c1 := HW10.out.c1
  have x0 := HX10.out.c0
  have x1 := HX10.out.c1
  go_wp2_with fail
  refine (chainOk_any _ HX10.out.pi HX10.out.xi).mono ?_
  rw [HF.out.okX]
  rintro e W11 ⟨rfl, g11⟩
  have HW11 := hid (HW10.out.on g11)
  have HG11 := hid (gr_then HG10.out g11)
  clear c0 c1 x0 x1 g11 HW10 HX10 HG10
  have c1 := HW11.out.c1
  go_wp2_with fail
  refine (circleIn_any _ HW11.out.xi).mono ?_
  rintro e W12 ⟨q, rfl, oq, g12⟩
  obtain ⟨qa, qc', rfl⟩ := sl_own oq.2
  rw [(chainB_parts HC.out).2.2.2.2]
  have HG12 := hid (gr_then HG11.out g12)
  have HL := hid (show Ints (W12.alloc (.cells #[.int .i64 1, .int .i64 0, .int .i64 0] 3)) (.slice (some ⟨W12.heap.size, 0, none⟩) 3 3) [1, 0, 0] from ints_lit' W12 3 [1, 0, 0] (by intro y hy; simp at hy; unfold I64; omega) (by decide))
  clear c1 g12 oq HW11 HG11
  go_wp2_with fail
  refine (circleIn_any _ HL.out).mono ?_
  rw [show circL [1, 0, 0] = [0, 1] from by decide]
  rintro e W13 ⟨q2, rfl, oq2, g13⟩
  have HG13 := hid (gr_then (gr_alloc HG12.out _) g13)
  have HQ2 := hid (oq2.ints.on (gr_alloc (gr_refl _ _) (.cells #[.int .i64 0, .int .i64 1] 3)))
  obtain ⟨qa2, qc2, rfl⟩ := sl_own oq2.2
  have HL2 := hid (show Ints (W13.alloc (.cells #[.int .i64 0, .int .i64 1] 3)) (.slice (some ⟨W13.heap.size, 0, none⟩) 2 2) [0, 1] from ints_lit' W13 3 [0, 1] (by intro y hy; simp at hy; unfold I64; omega) (by decide))
  clear g13 oq2 HL HG12
  go_wp2_with fail
  refine (sameInts_any _ HQ2.out HL2.out).mono ?_
  simp only [decide_true]
  rintro e W14 ⟨rfl, g14⟩
  have HG14 := hid (gr_then (gr_alloc HG13.out _) g14)
  clear g14 HQ2 HL2 HG13
  go_wp2
  go_ret
  exact ⟨rfl, HG14.out⟩
end Go.Proofs.Ytbmgmolnknnaiaa
