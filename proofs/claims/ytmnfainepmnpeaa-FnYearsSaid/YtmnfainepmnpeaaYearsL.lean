/- The law over drawn years, walked. -/
import Derived.Test.YtmnfainepmnpeaaDrawYear
import Derived.Test.YtmnfainepmnpeaaYearsP
import Derived.Test.YtmnfainepmnpeaaYLeast
import Derived.BigRegion
namespace Go.Proofs.Ytmnfainepmnpeaa
open Go.RowKit

set_option maxRecDepth 100000 in
set_option maxHeartbeats 8000000 in
theorem walk_FnYears (v : Value) (n : Nat) (w : World) (h : BytesN w v n) :
    Calls Try.prog 10 #[v] w fun e w' => e = .returned (.bool true) ∧ Gr w w' none := by
  obtain ⟨a0, cap0, rfl, _⟩ := id h
  by_cases hn : n ≤ 1048576
  case neg =>
    have hb : decide (1048576 < (n : Int)) = true := by simp; omega
    go_enter Try.func10, Try.ntmps10
    go_wp2_with fail
    refine (big_any _ h).mono ?_
    rw [hb]
    rintro e w' ⟨rfl, rfl⟩
    go_wp2
    go_ret
    exact ⟨rfl, gr_refl _ _⟩
  case pos =>
  have hb : decide (1048576 < (n : Int)) = false := by simp; omega
  go_enter Try.func10, Try.ntmps10
  go_wp2_with fail
  refine (big_any _ h).mono ?_
  rw [hb]
  rintro e w' ⟨rfl, rfl⟩
  go_wp2_with fail
  refine (drawYear_any _ h hn).mono ?_
  rintro e w0 ⟨r, s, m, u, xs, rfl, hsm, ou, g0⟩
  have hy := small_year hsm
  obtain ⟨S1, S2, S3, S4, S5⟩ := hsm
  have HG : Hid (∀ i, i < xs.length → 0 ≤ gi xs i ∧ gi xs i ≤ 99) := fun i hi => S5 _ (gi_mem hi)
  have HF := hid (fair_year hy)
  have HY := hid hy
  obtain ⟨b, off, cap, rfl⟩ : ∃ b off cap, u = .slice (some ⟨b, off, none⟩) xs.length cap := by
    obtain ⟨_, a, cap, rfl, _, _, h0 | ⟨b, off, rfl, _⟩⟩ := ou.ints
    · subst h0; simp at S4
    · exact ⟨b, off, cap, rfl⟩
  have HU0 := hid (ou.ints.on (gr_alloc (gr_refl w0 none) (.cells #[.int .i64 r, .int .i64 s, .slice (some ⟨b, off, none⟩) xs.length cap, .int .i64 m] 27)))
  have B0 := hid (blk_new w0 #[.int .i64 r, .int .i64 s, .slice (some ⟨b, off, none⟩) xs.length cap, .int .i64 m] 27)
  have G0 := hid (gr_alloc g0 (.cells #[.int .i64 r, .int .i64 s, .slice (some ⟨b, off, none⟩) xs.length cap, .int .i64 m] 27))
  clear h hn hb S5 ou g0 hy
  go_wp2_with fail
  refine (implLevelsOf_any _ _ _ _ HU0.out).mono ?_
  rw [show levelsV r s m xs = levelsTo r s m xs xs.length from by rw [levelsV, if_pos HY.out]]
  rintro e w1 ⟨lv, rfl, ol, g1⟩
  have hll : (levelsTo r s m xs xs.length).length = xs.length := daysTo_length _ _
  obtain ⟨lb, lo, lc, rfl, hLc⟩ : ∃ lb lo lc, lv = .slice (some ⟨lb, lo, none⟩) xs.length lc ∧ IntsAt w1 lb lo (levelsTo r s m xs xs.length) := by
    obtain ⟨_, a, cap, rfl, _, _, h0 | ⟨b, off, rfl, hc⟩⟩ := ol.ints
    · rw [h0] at hll; simp at hll; omega
    · exact ⟨b, off, cap, by rw [hll], hc⟩
  have HLC : Hid (∀ k, k < xs.length → w1.cell? ⟨lb, lo + k, none⟩ = some (.int .i64 (levAt r s m xs (k + 1)))) := fun k hk => by
    have := hLc k (by rw [hll]; exact hk)
    rw [this, levelsTo, gi_days hk]
  have HU1 := hid (HU0.out.on g1)
  have HX1 : Hid (IntsAt w1 b off xs) := by
    obtain ⟨_, a, cap, e, _, _, h0 | ⟨b', off', e', hc⟩⟩ := HU1.out
    · subst h0; simp at S4
    · simp only [Value.slice.injEq] at e
      obtain ⟨rfl, -, -⟩ := e
      simp only [Option.some.injEq, Addr.mk.injEq] at e'
      obtain ⟨rfl, rfl, -⟩ := e'
      exact hc
  have B1 := hid (B0.out.on g1)
  have G1 := hid (gr_then G0.out g1)
  have HLb := hid (World.block_lt_of_cell? w1 _ (HLC.out 0 (by omega)))
  have hL0 := HLC.out (xs.length - 1) (by omega)
  obtain ⟨p0, p1, p2, p3, f0, f1, f2, f3⟩ := cells4 B1.out
  clear HU0 B0 G0 g1 hLc ol f0 f1 f2 f3
  go_wp2_with fail
  go_loopw [6, 7, 8] (fun all dry i wr => ∃ k : Nat, k ≤ xs.length ∧ i = .int .i64 k ∧ all = .int .i64 (s + sumTo xs k) ∧ dry = .int .i64 (sumF (dryAt r s m xs) k) ∧ Gr w1 wr none) (fun _ _ i _ => xs.length - (intOf i).toNat)
  case atStart => exact ⟨0, Nat.zero_le _, rfl, by simp [sumTo], rfl, gr_refl _ _⟩
  case round =>
    obtain ⟨k, hk, rfl, rfl, rfl, hg⟩ := hrel
    have HB := hid (B1.out.on hg)
    have HGr := hid hg
    obtain ⟨p0', p1', p2', p3', -⟩ := cells4 HB.out
    clear p0 p1 p2 p3 hg
    have sb := fair_sum HF.out hk
    have db := sum_bd400 (f := dryAt r s m xs) (N := xs.length) (fun i _ => dry_bd r s m xs i) (by omega) hk
    by_cases hlt : k < xs.length
    · have i1 : (k : Int) < (xs.length : Int) := by omega
      have i2 : (0 : Int) ≤ (k : Int) := by omega
      have hx := HG.out k hlt
      have cx := HX1.out.kept HGr.out (by simp) k hlt
      have cl := (gr_cell HGr.out _ _ (World.block_lt_of_cell? w1 _ (HLC.out k hlt))).trans (HLC.out k hlt)
      obtain ⟨l1, l2, l3⟩ := lev_top HY.out hlt
      have E1 : Hid (s + sumTo xs (k + 1) = s + sumTo xs k + gi xs k) := by simp only [Hid, sumTo]; omega
      have E2 : Hid (sumF (dryAt r s m xs) (k + 1) = sumF (dryAt r s m xs) k + if levAt r s m xs (k + 1) = 0 then 1 else 0) := hid rfl
      generalize sumTo xs k = A at *
      generalize gi xs k = X at *
      generalize sumF (dryAt r s m xs) k = D at *
      generalize levAt r s m xs (k + 1) = L at *
      clear hL0
      have hmx : decide ((if 0 < IntKind.i64.wrap (r - m) then IntKind.i64.wrap (r - m) else 0) < L) = false := by
        rw [IntWalk.i64_in (r - m) (by omega)]; simp; split <;> omega
      have hl0 : decide (L < 0) = false := by simp; omega
      by_cases hL : L = 0
      · have hxb : (L == 0) = true := by simp [hL]
        rw [if_pos hL] at E2
        clear hL
        go_wp2_with fail
        refine (btoi_true _).mono ?_
        rintro e w' ⟨rfl, rfl⟩
        go_wp2_with fail
        go_quiet (fail)
        go_wp2
        go_roundw
        case rel => exact ⟨k + 1, by omega, by go_num, by rw [E1.out], by rw [E2.out], gr_drewN HGr.out _⟩
        case measure => simp [intOf]; omega
      · have hxb : (L == 0) = false := by simp [hL]
        rw [if_neg hL] at E2
        clear hL
        go_wp2_with fail
        refine (btoi_false _).mono ?_
        rintro e w' ⟨rfl, rfl⟩
        go_wp2_with fail
        go_quiet (fail)
        go_wp2
        go_roundw
        case rel => exact ⟨k + 1, by omega, by go_num, by rw [E1.out], by rw [E2.out]; simp, gr_drewN HGr.out _⟩
        case measure => simp [intOf]; omega
    · have hkl : k = xs.length := by omega
      subst hkl
      have clx := (gr_cell HGr.out _ _ (World.block_lt_of_cell? w1 _ hL0)).trans hL0
      have HU2 := hid (HU1.out.on HGr.out)
      have G2 := hid (gr_then G1.out HGr.out)
      have HLC2 : Hid (∀ i, i < xs.length → wr.cell? ⟨lb, lo + i, none⟩ = some (.int .i64 (levAt r s m xs (i + 1)))) := fun i hi => (gr_cell HGr.out _ _ (World.block_lt_of_cell? w1 _ (HLC.out i hi))).trans (HLC.out i hi)
      obtain ⟨K1, K2, K3, K4⟩ : (sumF (drawnAt r s m xs) xs.length + sumF (lostAt r s m xs) xs.length + levAt r s m xs xs.length = s + sumTo xs xs.length) ∧ ((shortTo r s m xs xs.length).length : Int) ≤ sumF (dryAt r s m xs) xs.length ∧ sumF (drawnAt r s m xs) xs.length ≤ m * xs.length ∧ (sumF (drawnAt r s m xs) xs.length = m * xs.length ↔ (shortTo r s m xs xs.length).length = 0) := ⟨year_kept HY.out _ (Nat.le_refl _), short_dry HY.out _ (Nat.le_refl _), drawn_full HY.out _ (Nat.le_refl _)⟩
      have dd := sum_bd400 (f := drawnAt r s m xs) (N := xs.length) (fun i hi => (day_bd HY.out hi).2.2.2.1) (by omega) (Nat.le_refl _)
      have dl := sum_bd400 (f := lostAt r s m xs) (N := xs.length) (fun i hi => (day_bd HY.out hi).2.2.1) (by omega) (Nat.le_refl _)
      have lv := (day_law HY.out xs.length (Nat.le_refl _)).1
      rw [show xs.length - 1 + 1 = xs.length from by omega] at hL0 clx
      have HT : Hid (takenV r s m xs = sumF (drawnAt r s m xs) xs.length ∧ lostV r s m xs = sumF (lostAt r s m xs) xs.length ∧ shortV r s m xs = shortTo r s m xs xs.length ∧ dryV r s m xs = sumF (dryAt r s m xs) xs.length) := by
        simp only [Hid, takenV, lostV, shortV, dryV, HY.out, if_true, and_self]
      have HSh : Hid (∀ j, j < (shortTo r s m xs xs.length).length → ∃ i : Nat, gi (shortTo r s m xs xs.length) j = i ∧ i < xs.length ∧ levAt r s m xs (i + 1) = 0) := fun j hj => short_at HY.out hj
      have hml : (shortTo r s m xs xs.length).length ≤ xs.length := whereTo_length _ _
      obtain ⟨M, hM⟩ : ∃ M : Int, M = m * xs.length := ⟨_, rfl⟩
      have hMm : IntKind.i64.wrap ((xs.length : Int) * m) = M ∧ (xs.length : Int) * m = M := by rw [hM, Int.mul_comm]; exact ⟨IntWalk.i64_in _ (by
        have h1 : m * (xs.length : Int) ≤ 39 * xs.length := Int.mul_le_mul_of_nonneg_right S3.2 (by omega)
        have h2 : 0 ≤ m * (xs.length : Int) := Int.mul_nonneg S3.1 (by omega)
        omega), rfl⟩
      rw [← hM] at K3 K4
      generalize sumF (drawnAt r s m xs) xs.length = TD at *
      generalize sumF (lostAt r s m xs) xs.length = TL at *
      generalize sumF (dryAt r s m xs) xs.length = TZ at *
      generalize levAt r s m xs xs.length = LZ at *
      generalize sumTo xs xs.length = SX at *
      generalize hSH : shortTo r s m xs xs.length = SH at *
      have HK4 := hid K4
      have hq : ((xs.length : Int) - 1).toNat = xs.length - 1 := by omega
      have hMM := hMm.1
      clear HU1 HX1 HLC G1 HGr hL0 B1 hM hSH K4 HF HG hMm
      go_wp2_with fail
      refine (implTakenWater_any _ _ _ _ HU2.out).mono ?_
      rw [HT.out.1]
      rintro e w2 ⟨rfl, g2⟩
      have HU3 := hid (HU2.out.on g2)
      have HB3 := hid (HB.out.on g2)
      have G3 := hid (gr_then G2.out g2)
      have HLC3 : Hid (∀ i, i < xs.length → w2.cell? ⟨lb, lo + i, none⟩ = some (.int .i64 (levAt r s m xs (i + 1)))) := fun i hi => (gr_cell g2 _ _ (World.block_lt_of_cell? wr _ (HLC2.out i hi))).trans (HLC2.out i hi)
      have cl3 := (gr_cell g2 _ _ (World.block_lt_of_cell? wr _ clx)).trans clx
      obtain ⟨p0, p1, p2, p3, -⟩ := cells4 HB3.out
      clear p0' p1' p2' p3' clx HU2 HB G2 HLC2 g2
      go_wp2_with fail
      refine (implLostWater_any _ _ _ _ HU3.out).mono ?_
      rw [HT.out.2.1]
      rintro e w3 ⟨rfl, g3⟩
      have HU4 := hid (HU3.out.on g3)
      have HB4 := hid (HB3.out.on g3)
      have G4 := hid (gr_then G3.out g3)
      have HLC4 : Hid (∀ i, i < xs.length → w3.cell? ⟨lb, lo + i, none⟩ = some (.int .i64 (levAt r s m xs (i + 1)))) := fun i hi => (gr_cell g3 _ _ (World.block_lt_of_cell? w2 _ (HLC3.out i hi))).trans (HLC3.out i hi)
      have cl4 := (gr_cell g3 _ _ (World.block_lt_of_cell? w2 _ cl3)).trans cl3
      obtain ⟨p0', p1', p2', p3', -⟩ := cells4 HB4.out
      clear p0 p1 p2 p3 cl3 HU3 HB3 G3 HLC3 g3
      go_wp2_with fail
      refine (implShortDays_any _ _ _ _ HU4.out).mono ?_
      rw [HT.out.2.2.1]
      rintro e w4 ⟨sv, rfl, os, g4⟩
      have HU5 := hid (HU4.out.on g4)
      have HB5 := hid (HB4.out.on g4)
      have G5 := hid (gr_then G4.out g4)
      have HLC5 : Hid (∀ i, i < xs.length → w4.cell? ⟨lb, lo + i, none⟩ = some (.int .i64 (levAt r s m xs (i + 1)))) := fun i hi => (gr_cell g4 _ _ (World.block_lt_of_cell? w3 _ (HLC4.out i hi))).trans (HLC4.out i hi)
      have cl5 := (gr_cell g4 _ _ (World.block_lt_of_cell? w3 _ cl4)).trans cl4
      obtain ⟨p0, p1, p2, p3, -⟩ := cells4 HB5.out
      have HOS := hid os.ints
      obtain ⟨sa, sc, rfl⟩ := sl_own os.2
      clear p0' p1' p2' p3' cl4 HU4 HB4 G4 HLC4 g4 os
      have t1 : decide (TD < 0) = false := by simp; omega
      have t2 : decide (TL < 0) = false := by simp; omega
      have t3 : (TD + TL + LZ == s + SX) = true := by simp; omega
      have t4 : decide (TZ < (SH.length : Int)) = false := by simp; omega
      have t5 : decide (M < TD) = false := by simp; omega
      have t6 : ((TD == M) == ((SH.length : Int) == 0)) = true := by
        by_cases h0 : SH.length = 0
        · simp [h0, HK4.out.2 h0]
        · have e1 : (TD == M) = false := by simp; exact fun e => h0 (HK4.out.1 e)
          have e2 : ((SH.length : Int) == 0) = false := by simp; exact fun e => h0 (by rw [e]; rfl)
          rw [e1, e2]; rfl
      go_wp2_with fail
      refine (implDryDays_any _ _ _ _ HU5.out).mono ?_
      rw [HT.out.2.2.2]
      rintro e w5 ⟨rfl, g5⟩
      have HU6 := hid (HU5.out.on g5)
      have HB6 := hid (HB5.out.on g5)
      have G6 := hid (gr_then G5.out g5)
      have HLC6 : Hid (∀ i, i < xs.length → w5.cell? ⟨lb, lo + i, none⟩ = some (.int .i64 (levAt r s m xs (i + 1)))) := fun i hi => (gr_cell g5 _ _ (World.block_lt_of_cell? w4 _ (HLC5.out i hi))).trans (HLC5.out i hi)
      obtain ⟨p0', p1', p2', p3', -⟩ := cells4 HB6.out
      have HOS6 := hid (HOS.out.on g5)
      clear p0 p1 p2 p3 cl5 HU5 HB5 G5 HLC5 g5 HOS
      go_wp2_with fail
      clear t1 t2 t3 t4 t5 t6 hMM hq K1 K2 K3 dd dl lv sb db
      go_loop [12] (fun i => ∃ j : Nat, j ≤ SH.length ∧ i = .int .i64 j) (fun i => SH.length - (intOf i).toNat)
      case atStart => exact ⟨0, by omega, rfl⟩
      case round =>
        obtain ⟨j, hj, rfl⟩ := hrel
        by_cases hlt : j < SH.length
        · obtain ⟨i, e1, hi, hz⟩ := HSh.out j hlt
          obtain ⟨_, sa', sc', e', _, _, h0⟩ := HOS6.out
          simp only [Value.slice.injEq, true_and] at e'
          obtain ⟨rfl, rfl⟩ := e'
          obtain ⟨sb, so, rfl, hsc⟩ : ∃ b off, sa = some ⟨b, off, none⟩ ∧ IntsAt w5 b off SH := by
            rcases h0 with h0 | h0
            · subst h0; simp at hlt
            · exact h0
          have cs := hsc j hlt
          have cl := HLC6.out i hi
          rw [e1] at cs
          rw [hz] at cl
          have i1 : (i : Int) < (xs.length : Int) := by omega
          have i2 : (0 : Int) ≤ (i : Int) := by omega
          have i3 : (j : Int) < (SH.length : Int) := by omega
          have i4 : (0 : Int) ≤ (j : Int) := by omega
          have t1 : decide ((i : Int) < 0) = false := by simp
          have t2 : decide ((xs.length : Int) ≤ (i : Int)) = false := by simp; omega
          have t3 : decide (xs.length ≤ i) = false := by simp; omega
          clear h0 hsc e1 hz
          go_wp2
          go_round
          case rel => exact ⟨j + 1, by omega, by go_num⟩
          case measure => simp [intOf]; omega
        · have i3 : ¬ ((j : Int) < (SH.length : Int)) := by omega
          go_wp2_with fail
          refine (yearOk_any _ _ _ _ HU6.out).mono ?_
          rw [HY.out]
          rintro e w6 ⟨rfl, g6⟩
          go_wp2
          go_ret
          exact ⟨rfl, gr_then G6.out g6⟩
end Go.Proofs.Ytmnfainepmnpeaa
