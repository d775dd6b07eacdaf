/- The law over the sizes of drawn years, walked. -/
import Derived.Test.YtmnfainepmnpeaaDrawYear
import Derived.Test.YtmnfainepmnpeaaYSizesP
import Derived.Deep.DeepCutAuto
namespace Go.Proofs.Ytmnfainepmnpeaa
open Go.RowKit

theorem with_fifty {r s n : Int} {xs : List Int} (h : yearB r s xs n = true) : withR r s n xs 50 = 50 ∧ withS r s n xs 50 = if s < 50 then s else 50 := by
  have e : withOk r s n xs 50 = true := by rw [withOk, h, inB_mk (by omega)]; rfl
  rw [withR, withS, if_pos e, if_pos e]
  refine ⟨rfl, ?_⟩
  split <;> omega
theorem avg_wraps {A S N : Int} (hN : 1 ≤ N) (hN2 : N ≤ 12) (hS : 0 ≤ S) (hS2 : S ≤ 1000000000000000) (h1 : A * N ≤ S) (h2 : S < (A + 1) * N) : 0 ≤ A ∧ A ≤ 1000000000000000 ∧ 0 ≤ A * N ∧ (A + 1) * N = A * N + N := by
  have e : (A + 1) * N = A * N + N := by rw [Int.add_mul, Int.one_mul]
  have hA : 0 ≤ A := by
    rcases Int.lt_or_le A 0 with h | h
    · have := Int.mul_le_mul_of_nonneg_right (show A + 1 ≤ 0 by omega) (show 0 ≤ N by omega)
      rw [Int.zero_mul] at this; omega
    · exact h
  have h3 := Int.mul_le_mul_of_nonneg_left hN hA
  rw [Int.mul_one] at h3
  exact ⟨hA, by omega, by omega, e⟩
theorem blk_s3 {a : World} {B : Nat} {T : TypeId} {x0 x1 x2 x3 : Value} (h : Blk a B #[x0, x1, x2, x3] T) (y : Value) : Blk (a.setCell ⟨B, 3, none⟩ y) B #[x0, x1, x2, y] T := by
  have b := Go.Joins.block_setCell h (i := 3) y
  unfold Blk
  simpa using b
set_option maxRecDepth 100000 in
set_option maxHeartbeats 8000000 in
theorem walk_FnSizes (v : Value) (n : Nat) (w : World) (h : BytesN w v n) :
    Calls Try.prog 11 #[v] w fun e w' => e = .returned (.bool true) ∧ Gr w w' none := by
  obtain ⟨a0, cap0, rfl, _⟩ := id h
  by_cases hn : n ≤ 1048576
  case neg =>
    have hb : decide (1048576 < (n : Int)) = true := by simp; omega
    go_enter Try.func11, Try.ntmps11
    go_wp2_with fail
    refine (big_any _ h).mono ?_
    rw [hb]
    rintro e w' ⟨rfl, rfl⟩
    go_wp2
    go_ret
    exact ⟨rfl, gr_refl _ _⟩
  case pos =>
  have hb : decide (1048576 < (n : Int)) = false := by simp; omega
  go_enter Try.func11, Try.ntmps11
  go_wp2_with fail
  refine (big_any _ h).mono ?_
  rw [hb]
  rintro e w' ⟨rfl, rfl⟩
  go_wp2_with fail
  refine (drawYear_any _ h hn).mono ?_
  rintro e w0 ⟨r, s, m, u, xs, rfl, hsm, ou, g0⟩
  have hy := small_year hsm
  obtain ⟨S1, S2, S3, S4, S5⟩ := hsm
  have HG : Hid (∀ i, i < xs.length → 0 ≤ gi xs i ∧ gi xs i ≤ 99) := fun i hi => S5 _ (gi_mem hi)
  have HF := hid (fair_year hy)
  have HY := hid hy
  have hL : xs.length ≤ 1048576 := by omega
  obtain ⟨b, off, cap, rfl⟩ : ∃ b off cap, u = .slice (some ⟨b, off, none⟩) xs.length cap := by
    obtain ⟨_, a, cap, rfl, _, _, h0 | ⟨b, off, rfl, _⟩⟩ := ou.ints
    · subst h0; simp at S4
    · exact ⟨b, off, cap, rfl⟩
  have HU0 := hid (ou.ints.on (gr_alloc (gr_refl w0 none) (.cells #[.int .i64 r, .int .i64 s, .slice (some ⟨b, off, none⟩) xs.length cap, .int .i64 m] 27)))
  have B0 := hid (blk_new w0 #[.int .i64 r, .int .i64 s, .slice (some ⟨b, off, none⟩) xs.length cap, .int .i64 m] 27)
  have G0 := hid (gr_alloc g0 (.cells #[.int .i64 r, .int .i64 s, .slice (some ⟨b, off, none⟩) xs.length cap, .int .i64 m] 27))
  obtain ⟨N1, N2, N3, N4, N5⟩ := need_spec hy
  have N6 := need_sum hy
  obtain ⟨R1, R2⟩ := room_spec hy (by omega)
  obtain ⟨T1, T2⟩ := start_spec hy
  obtain ⟨A1, A2⟩ := avg_spec hy
  generalize hM : needV r s m xs = M at *
  generalize hR : roomV' r s m xs = R at *
  generalize hT : startV r s m xs = T at *
  generalize hA : avgV r s m xs = A at *
  generalize hE : enoughB r s m xs = E at *
  have HM := hid hM
  have HR := hid hR
  have HT := hid hT
  have HA := hid hA
  have HE := hid hE
  have HN3 := hid N3
  have HN4 := hid N4
  have HN5 := hid N5
  have HR1 := hid R1
  have HR2 := hid R2
  have HT1 := hid T1
  have HT2 := hid T2
  have HAA := hid (And.intro A1 A2)
  have HN6 := hid N6
  clear h hn hb S5 ou g0 hy hM hR hT hA hE N3 N4 N5 R1 R2 T1 T2 A1 A2 N6
  go_wp2_with fail
  refine (mostNeed_any _ _ _ _ HU0.out).mono ?_
  rw [HM.out]
  rintro e w1 ⟨rfl, g1⟩
  have HU1 := hid (HU0.out.on g1)
  have B1 := hid (B0.out.on g1)
  have G1 := hid (gr_then G0.out g1)
  obtain ⟨p0, p1, p2, p3, -⟩ := cells4 B1.out
  clear HU0 B0 G0 g1
  go_wp2_with fail
  refine (leastRoom_any _ _ _ _ HU1.out hL).mono ?_
  rw [HR.out]
  rintro e w2 ⟨rfl, g2⟩
  have HU2 := hid (HU1.out.on g2)
  have B2 := hid (B1.out.on g2)
  have G2 := hid (gr_then G1.out g2)
  obtain ⟨q0, q1, q2, q3, -⟩ := cells4 B2.out
  clear HU1 B1 G1 g2 p0 p1 p2 p3
  go_wp2_with fail
  refine (leastStart_any _ _ _ _ HU2.out).mono ?_
  rw [HT.out]
  rintro e w3 ⟨rfl, g3⟩
  have HU := hid (HU2.out.on g3)
  have BY := hid (B2.out.on g3)
  have GY := hid (gr_then G2.out g3)
  have hw3 := hid BY.out.lt
  obtain ⟨p0, p1, p2, p3, -⟩ := cells4 BY.out
  clear HU2 B2 G2 g3 q0 q1 q2 q3
  -- more.Need = m
  have hm0 : decide (M < 0) = false := by simp; omega
  have BZ0 := hid (blk_new w3 (#[.int .i64 r, .int .i64 s, .slice (some ⟨b, off, none⟩) xs.length cap, .int .i64 M]) 27)
  have GZ0 := hid (gr_alloc (gr_refl w3 none) (.cells (#[.int .i64 r, .int .i64 s, .slice (some ⟨b, off, none⟩) xs.length cap, .int .i64 M]) 27))
  go_wp2_with fail
  refine (isEnough_any _ _ _ _ (HU.out.on GZ0.out)).mono ?_
  rw [HN3.out]
  rintro e w4 ⟨rfl, g4⟩
  have BZ4 := hid (BZ0.out.on g4)
  have GZ4 := hid (gr_then GZ0.out g4)
  obtain ⟨z0, z1, z2, z3, f0, f1, f2, f3⟩ := cells4 BZ4.out
  clear BZ0 GZ0 g4 p0 p1 p2 p3
  have BZ5 := hid (blk_s3 BZ4.out (.int .i64 (M + 1)))
  have GZ5 := hid (gr_set GZ4.out (p := ⟨w3.heap.size, 3, none⟩) (.inr (by simp)) (.int .i64 (M + 1)))
  have BYZ := hid (BY.out.on GZ5.out)
  clear BZ4 GZ4
  go_wp2_with fail
  have h12 : Hid ((w4.setCell ⟨w3.heap.size, 3, none⟩ (.int .i64 (M + 1))).cell? ⟨w3.heap.size, 0, none⟩ = some (.int .i64 r) ∧ (w4.setCell ⟨w3.heap.size, 3, none⟩ (.int .i64 (M + 1))).cell? ⟨w3.heap.size, 1, none⟩ = some (.int .i64 s) ∧ (w4.setCell ⟨w3.heap.size, 3, none⟩ (.int .i64 (M + 1))).cell? ⟨w3.heap.size, 2, none⟩ = some (.slice (some ⟨b, off, none⟩) xs.length cap) ∧ (w4.setCell ⟨w3.heap.size, 3, none⟩ (.int .i64 (M + 1))).cell? ⟨w3.heap.size, 3, none⟩ = some (.int .i64 (M + 1)) ∧ (w4.setCell ⟨w3.heap.size, 3, none⟩ (.int .i64 (M + 1))).cell? ⟨w0.heap.size, 0, none⟩ = some (.int .i64 r) ∧ (w4.setCell ⟨w3.heap.size, 3, none⟩ (.int .i64 (M + 1))).cell? ⟨w0.heap.size, 1, none⟩ = some (.int .i64 s) ∧ (w4.setCell ⟨w3.heap.size, 3, none⟩ (.int .i64 (M + 1))).cell? ⟨w0.heap.size, 2, none⟩ = some (.slice (some ⟨b, off, none⟩) xs.length cap) ∧ (w4.setCell ⟨w3.heap.size, 3, none⟩ (.int .i64 (M + 1))).cell? ⟨w0.heap.size, 3, none⟩ = some (.int .i64 m) ∧ Gr w3 (w4.setCell ⟨w3.heap.size, 3, none⟩ (.int .i64 (M + 1))) none) := by
    obtain ⟨y0, y1, y2, y3, -⟩ := cells4 BYZ.out
    obtain ⟨x0, x1, x2, x3, -⟩ := cells4 BZ5.out
    exact ⟨x0, x1, x2, x3, y0, y1, y2, y3, GZ5.out⟩
  have HON : Hid (∀ W W' : World, (W.cell? ⟨w3.heap.size, 0, none⟩ = some (.int .i64 r) ∧ W.cell? ⟨w3.heap.size, 1, none⟩ = some (.int .i64 s) ∧ W.cell? ⟨w3.heap.size, 2, none⟩ = some (.slice (some ⟨b, off, none⟩) xs.length cap) ∧ W.cell? ⟨w3.heap.size, 3, none⟩ = some (.int .i64 (M + 1)) ∧ W.cell? ⟨w0.heap.size, 0, none⟩ = some (.int .i64 r) ∧ W.cell? ⟨w0.heap.size, 1, none⟩ = some (.int .i64 s) ∧ W.cell? ⟨w0.heap.size, 2, none⟩ = some (.slice (some ⟨b, off, none⟩) xs.length cap) ∧ W.cell? ⟨w0.heap.size, 3, none⟩ = some (.int .i64 m) ∧ Gr w3 W none) → Gr W W' none → (W'.cell? ⟨w3.heap.size, 0, none⟩ = some (.int .i64 r) ∧ W'.cell? ⟨w3.heap.size, 1, none⟩ = some (.int .i64 s) ∧ W'.cell? ⟨w3.heap.size, 2, none⟩ = some (.slice (some ⟨b, off, none⟩) xs.length cap) ∧ W'.cell? ⟨w3.heap.size, 3, none⟩ = some (.int .i64 (M + 1)) ∧ W'.cell? ⟨w0.heap.size, 0, none⟩ = some (.int .i64 r) ∧ W'.cell? ⟨w0.heap.size, 1, none⟩ = some (.int .i64 s) ∧ W'.cell? ⟨w0.heap.size, 2, none⟩ = some (.slice (some ⟨b, off, none⟩) xs.length cap) ∧ W'.cell? ⟨w0.heap.size, 3, none⟩ = some (.int .i64 m) ∧ Gr w3 W' none)) := fun W W' hh hg => ⟨World.grownBy.cell hg hh.1 (by simp), World.grownBy.cell hg hh.2.1 (by simp), World.grownBy.cell hg hh.2.2.1 (by simp), World.grownBy.cell hg hh.2.2.2.1 (by simp), World.grownBy.cell hg hh.2.2.2.2.1 (by simp), World.grownBy.cell hg hh.2.2.2.2.2.1 (by simp), World.grownBy.cell hg hh.2.2.2.2.2.2.1 (by simp), World.grownBy.cell hg hh.2.2.2.2.2.2.2.1 (by simp), gr_then hh.2.2.2.2.2.2.2.2 hg⟩
  have h12d : Hid ((w4.setCell ⟨w3.heap.size, 3, none⟩ (.int .i64 (M + 1))).drew.cell? ⟨w3.heap.size, 0, none⟩ = some (.int .i64 r) ∧ (w4.setCell ⟨w3.heap.size, 3, none⟩ (.int .i64 (M + 1))).drew.cell? ⟨w3.heap.size, 1, none⟩ = some (.int .i64 s) ∧ (w4.setCell ⟨w3.heap.size, 3, none⟩ (.int .i64 (M + 1))).drew.cell? ⟨w3.heap.size, 2, none⟩ = some (.slice (some ⟨b, off, none⟩) xs.length cap) ∧ (w4.setCell ⟨w3.heap.size, 3, none⟩ (.int .i64 (M + 1))).drew.cell? ⟨w3.heap.size, 3, none⟩ = some (.int .i64 (M + 1)) ∧ (w4.setCell ⟨w3.heap.size, 3, none⟩ (.int .i64 (M + 1))).drew.cell? ⟨w0.heap.size, 0, none⟩ = some (.int .i64 r) ∧ (w4.setCell ⟨w3.heap.size, 3, none⟩ (.int .i64 (M + 1))).drew.cell? ⟨w0.heap.size, 1, none⟩ = some (.int .i64 s) ∧ (w4.setCell ⟨w3.heap.size, 3, none⟩ (.int .i64 (M + 1))).drew.cell? ⟨w0.heap.size, 2, none⟩ = some (.slice (some ⟨b, off, none⟩) xs.length cap) ∧ (w4.setCell ⟨w3.heap.size, 3, none⟩ (.int .i64 (M + 1))).drew.cell? ⟨w0.heap.size, 3, none⟩ = some (.int .i64 m) ∧ Gr w3 (w4.setCell ⟨w3.heap.size, 3, none⟩ (.int .i64 (M + 1))).drew none) := HON.out _ _ h12.out (gr_drew (gr_refl _ _))
  have HUS : Hid (∀ W : World, (W.cell? ⟨w3.heap.size, 0, none⟩ = some (.int .i64 r) ∧ W.cell? ⟨w3.heap.size, 1, none⟩ = some (.int .i64 s) ∧ W.cell? ⟨w3.heap.size, 2, none⟩ = some (.slice (some ⟨b, off, none⟩) xs.length cap) ∧ W.cell? ⟨w3.heap.size, 3, none⟩ = some (.int .i64 (M + 1)) ∧ W.cell? ⟨w0.heap.size, 0, none⟩ = some (.int .i64 r) ∧ W.cell? ⟨w0.heap.size, 1, none⟩ = some (.int .i64 s) ∧ W.cell? ⟨w0.heap.size, 2, none⟩ = some (.slice (some ⟨b, off, none⟩) xs.length cap) ∧ W.cell? ⟨w0.heap.size, 3, none⟩ = some (.int .i64 m) ∧ Gr w3 W none) → Ints W (.slice (some ⟨b, off, none⟩) xs.length cap) xs) := fun W hh => HU.out.on hh.2.2.2.2.2.2.2.2
  clear z0 z1 z2 z3 f0 f1 f2 f3 BZ5 GZ5 BYZ
  go_upto_region 12 with fail
  go_cut [47] (fun c wx => c = .bool false ∧ Gr w3 wx none)
  case first =>
    go_region_held3 (fun w' => w'.cell? ⟨w3.heap.size, 0, none⟩ = some (.int .i64 r) ∧ w'.cell? ⟨w3.heap.size, 1, none⟩ = some (.int .i64 s) ∧ w'.cell? ⟨w3.heap.size, 2, none⟩ = some (.slice (some ⟨b, off, none⟩) xs.length cap) ∧ w'.cell? ⟨w3.heap.size, 3, none⟩ = some (.int .i64 (M + 1)) ∧ w'.cell? ⟨w0.heap.size, 0, none⟩ = some (.int .i64 r) ∧ w'.cell? ⟨w0.heap.size, 1, none⟩ = some (.int .i64 s) ∧ w'.cell? ⟨w0.heap.size, 2, none⟩ = some (.slice (some ⟨b, off, none⟩) xs.length cap) ∧ w'.cell? ⟨w0.heap.size, 3, none⟩ = some (.int .i64 m) ∧ Gr w3 w' none)
      (first | with_reducible exact h12.out | with_reducible exact h12d.out | with_reducible exact s2 | with_reducible exact s3 | with_reducible exact HON.out _ _ s2 (gr_drew (gr_refl _ _)))
      (first
        | (go_at_call 33; (fail_if_success have := s2); refine (isEnough_any r s (M + 1) _ (HUS.out _ h12d.out)).mono ?_; rw [HN4.out]; rintro e w5 ⟨rfl, g5⟩; have s2 := HON.out _ _ h12d.out g5)
        | (go_at_call 33; refine (isEnough_any r s m _ (HUS.out _ s2)).mono ?_; rw [HE.out, HN5.out]; rintro e w6 ⟨rfl, g6⟩; have s3 := HON.out _ _ s2 g6))
    all_goals (
      go_wp2_with fail
      go_meet
      exact ⟨rfl, s3.2.2.2.2.2.2.2.2⟩)
  case rest =>
    obtain ⟨rfl, gc⟩ := hcut
    have BYc := hid (BY.out.on gc)
    have HGc := hid gc
    obtain ⟨p0, p1, p2, p3, -⟩ := cells4 BYc.out
    clear h12 HON h12d HUS hm0 gc
    go_upto_region 14 with fail
    go_cut [71] (fun c wx => c = .bool false ∧ Gr w3 wx none)
    case first =>
      rcases HR1.out with hR | ⟨hR1, hR2, hR3, hR4⟩
      · subst hR
        go_wp2
        go_meet
        exact ⟨rfl, HGc.out⟩
      · have hr0 : (0 : Int) ≤ R := by omega
        have hr1 : decide (R < 1) = false := by simp; omega
        have HR3 := hid (show enoughB (withR r s m xs R) (withS r s m xs R) m xs = true from hR3)
        have HR4 := hid (show 1 < R → enoughB (withR r s m xs (R - 1)) (withS r s m xs (R - 1)) m xs = false from hR4)
        clear hR3 hR4
        go_wp2_with fail
        refine (withRoom_any _ _ _ _ _ (HU.out.on HGc.out) hL).mono ?_
        rintro e w5 ⟨u5, rfl, o5, g5⟩
        have H5 := hid o5.ints
        obtain ⟨u5a, u5c, rfl⟩ := sl_own o5.2
        have G5 := hid (gr_then HGc.out g5)
        generalize hX : withR r s m xs R = X at *
        generalize hX' : withS r s m xs R = X' at *
        clear o5 g5 hX hX'
        go_wp2_with fail
        refine (isEnough_any _ _ _ _ H5.out).mono ?_
        rw [HR3.out]
        rintro e w6 ⟨rfl, g6⟩
        have G6 := hid (gr_then G5.out g6)
        have B6 := hid (BY.out.on G6.out)
        obtain ⟨q0, q1, q2, q3, -⟩ := cells4 B6.out
        clear p0 p1 p2 p3 g6 G5 H5
        by_cases hone : 1 < R
        · have hq := HR4.out hone
          have HQ := hid hq
          clear hq
          go_wp2_with fail
          refine (withRoom_any _ _ _ _ _ (HU.out.on G6.out) hL).mono ?_
          rintro e w7 ⟨u7, rfl, o7, g7⟩
          have H7 := hid o7.ints
          obtain ⟨u7a, u7c, rfl⟩ := sl_own o7.2
          have G7 := hid (gr_then G6.out g7)
          generalize hZ : withR r s m xs (R - 1) = Z at *
          generalize hZ' : withS r s m xs (R - 1) = Z' at *
          clear o7 g7 hZ hZ'
          go_wp2_with fail
          refine (isEnough_any _ _ _ _ H7.out).mono ?_
          rw [HQ.out]
          rintro e w8 ⟨rfl, g8⟩
          go_wp2
          go_meet
          exact ⟨rfl, gr_then G7.out g8⟩
        · go_wp2
          go_meet
          exact ⟨rfl, G6.out⟩
    case rest =>
      obtain ⟨rfl, gd⟩ := hcut
      have BYd := hid (BY.out.on gd)
      have HGd := hid gd
      clear p0 p1 p2 p3 gd
      obtain ⟨p0, p1, p2, p3, -⟩ := cells4 BYd.out
      go_upto_region 16 with fail
      go_cut [93] (fun c wx => c = .bool false ∧ Gr w3 wx none)
      case first =>
        go_wp2_with fail
        refine (isEnough_any _ _ _ _ (HU.out.on HGd.out)).mono ?_
        rw [HE.out]
        rintro e w5 ⟨rfl, g5⟩
        have G5 := hid (gr_then HGd.out g5)
        have B5 := hid (BY.out.on G5.out)
        obtain ⟨q0, q1, q2, q3, -⟩ := cells4 B5.out
        clear p0 p1 p2 p3 g5
        cases hEb : E
        · go_wp2
          go_meet
          exact ⟨rfl, G5.out⟩
        · obtain ⟨a1, a2⟩ := HR2.out hEb
          obtain ⟨a3, a4⟩ := HT2.out hEb
          have c1 : decide (R < 1) = false := by simp; omega
          have c2 : decide (r < R) = false := by simp; omega
          have c3 : decide (T < 0) = false := by simp; omega
          have c4 : decide (s < T) = false := by simp; omega
          clear hEb
          go_wp2
          go_meet
          exact ⟨rfl, G5.out⟩
      case rest =>
        obtain ⟨rfl, gx⟩ := hcut
        have BYx := hid (BY.out.on gx)
        have HGx := hid gx
        clear p0 p1 p2 p3 gx
        obtain ⟨p0, p1, p2, p3, -⟩ := cells4 BYx.out
        go_upto_if 95 with fail
        go_cut [] (fun wx => Gr w3 wx none)
        case first =>
          rcases HT1.out with hT | ⟨hT1, hT2, hT3, hT4⟩
          · subst hT
            go_wp2
            go_meet
            exact HGx.out
          · have HT3 := hid hT3
            have HT4 := hid hT4
            clear hT3 hT4
            have t0 : (0 : Int) ≤ T := by omega
            obtain ⟨q0, q1, q2, q3, -⟩ := cells4 (BYx.out.on (gr_alloc (gr_refl wc none) (.cells #[.int .i64 r, .int .i64 T, .slice (some ⟨b, off, none⟩) xs.length cap, .int .i64 m] 27)))
            obtain ⟨z0, z1, z2, z3, -⟩ := cells4 ((blk_new wc #[.int .i64 r, .int .i64 T, .slice (some ⟨b, off, none⟩) xs.length cap, .int .i64 m] 27).on (gr_alloc (gr_refl (wc.alloc (.cells #[.int .i64 r, .int .i64 T, .slice (some ⟨b, off, none⟩) xs.length cap, .int .i64 m] 27)) none) (.cells #[.int .i64 r, .int .i64 (T - 1), .slice (some ⟨b, off, none⟩) xs.length cap, .int .i64 m] 27)))
            have GZ := hid (gr_alloc (gr_alloc HGx.out (.cells #[.int .i64 r, .int .i64 T, .slice (some ⟨b, off, none⟩) xs.length cap, .int .i64 m] 27)) (.cells #[.int .i64 r, .int .i64 (T - 1), .slice (some ⟨b, off, none⟩) xs.length cap, .int .i64 m] 27))
            have BL := hid ((blk_new (wc.alloc (.cells #[.int .i64 r, .int .i64 T, .slice (some ⟨b, off, none⟩) xs.length cap, .int .i64 m] 27)) #[.int .i64 r, .int .i64 (T - 1), .slice (some ⟨b, off, none⟩) xs.length cap, .int .i64 m] 27))
            go_wp2_with fail
            refine (isEnough_any _ _ _ _ (HU.out.on GZ.out)).mono ?_
            rw [HT3.out]
            rintro e w5 ⟨rfl, g5⟩
            have G5 := hid (gr_then GZ.out g5)
            obtain ⟨l0, l1, l2, l3, -⟩ := cells4 (BL.out.on g5)
            clear p0 p1 p2 p3 q0 q1 q2 q3 z0 z1 z2 z3 g5 GZ
            simp only [World.size_alloc] at l0 l1 l2 l3
            by_cases hpos : 0 < T
            · have hq := HT4.out hpos
              have HQ := hid hq
              clear hq
              go_wp2_with fail
              refine (isEnough_any _ _ _ _ (HU.out.on G5.out)).mono ?_
              rw [HQ.out]
              rintro e w6 ⟨rfl, g6⟩
              go_wp2
              go_meet
              exact gr_then G5.out g6
            · go_wp2
              go_meet
              exact G5.out
        case rest =>
          have BYf := hid (BY.out.on hcut)
          have HGf := hid hcut
          have HUf := hid (HU.out.on hcut)
          clear p0 p1 p2 p3 hcut
          obtain ⟨p0, p1, p2, p3, -⟩ := cells4 BYf.out
          obtain ⟨w50, s50⟩ := with_fifty HY.out
          have HW50 := hid w50
          have HS50 := hid s50
          have ht := fair_sum HF.out (Nat.le_refl xs.length)
          obtain ⟨b1, b2, b3, b4⟩ := avg_wraps (by omega) (by omega) ht.1 ht.2 HAA.out.1 HAA.out.2
          have HN0 : 0 ≤ M * (xs.length : Int) := Int.mul_nonneg N1 (by omega)
          obtain ⟨P1, hP1⟩ : ∃ P : Int, P = A * xs.length := ⟨_, rfl⟩
          obtain ⟨P3, hP3⟩ : ∃ P : Int, P = M * xs.length := ⟨_, rfl⟩
          have HP : Hid (IntKind.i64.wrap (A * (xs.length : Int)) = P1 ∧ IntKind.i64.wrap ((A + 1) * (xs.length : Int)) = P1 + xs.length ∧ IntKind.i64.wrap (M * (xs.length : Int)) = P3) := by
            have c1 := HAA.out
            have c2 := HN6.out
            rw [b4, ← hP1] at c1
            rw [← hP3] at c2 HN0
            rw [← hP1] at b3
            rw [b4, ← hP1, ← hP3]
            exact ⟨IntWalk.i64_in _ (by omega), IntWalk.i64_in _ (by omega), IntWalk.i64_in _ (by omega)⟩
          have HC : Hid (P1 ≤ sumTo xs xs.length ∧ sumTo xs xs.length < P1 + xs.length ∧ P3 ≤ sumTo xs xs.length + s) := by
            have c1 := HAA.out
            have c2 := HN6.out
            rw [b4, ← hP1] at c1
            rw [← hP3] at c2
            exact ⟨c1.1, c1.2, c2⟩
          have b3' : 0 ≤ P1 := by omega
          have HN0' : 0 ≤ P3 := by omega
          clear b3 b4 hP1 hP3 HN0 w50 s50
          go_wp2_with fail
          refine (withRoom_any _ _ _ _ _ HUf.out hL).mono ?_
          rw [HW50.out, HS50.out]
          rintro e w5 ⟨u5, rfl, o5, g5⟩
          obtain ⟨u5a, u5c, rfl⟩ := sl_own o5.2
          generalize hm50 : (if s < 50 then s else 50) = S50 at *
          have HM50 := hid hm50
          clear hm50
          have G5 := hid (gr_alloc (gr_then HGf.out g5) (.cells #[.int .i64 50, .int .i64 S50, .slice u5a xs.length u5c, .int .i64 m] 27))
          have B5 := hid (BY.out.on G5.out)
          have V5 := hid (blk_new w5 #[.int .i64 50, .int .i64 S50, .slice u5a xs.length u5c, .int .i64 m] 27)
          obtain ⟨q0, q1, q2, q3, -⟩ := cells4 B5.out
          clear p0 p1 p2 p3 o5 g5
          go_wp2_with fail
          refine (averageCatch_any _ _ _ _ (HU.out.on G5.out)).mono ?_
          rw [HA.out]
          rintro e w6 ⟨rfl, g6⟩
          have G6 := hid (gr_then G5.out g6)
          have B6 := hid (BY.out.on G6.out)
          have V6 := hid (V5.out.on g6)
          have HX : Hid (IntsAt w6 b off xs) := by
            obtain ⟨_, a, cap, e, _, _, h0 | ⟨b', off', e', hc⟩⟩ := HU.out.on G6.out
            · subst h0; simp at S4
            · simp only [Value.slice.injEq] at e
              obtain ⟨rfl, -, -⟩ := e
              simp only [Option.some.injEq, Addr.mk.injEq] at e'
              obtain ⟨rfl, rfl, -⟩ := e'
              exact hc
          clear q0 q1 q2 q3 g6 G5 B5 V5
          obtain ⟨p0, p1, p2, p3, -⟩ := cells4 B6.out
          obtain ⟨x0, x1, x2, x3, -⟩ := cells4 V6.out
          go_wp2_with fail
          go_loop [12, 13] (fun a i => ∃ k : Nat, k ≤ xs.length ∧ i = .int .i64 k ∧ a = .int .i64 (sumTo xs k)) (fun _ i => xs.length - (intOf i).toNat)
          case atStart => exact ⟨0, Nat.zero_le _, rfl, rfl⟩
          case round =>
            obtain ⟨k, hk, rfl, rfl⟩ := hrel
            by_cases hlt : k < xs.length
            · have i1 : (k : Int) < (xs.length : Int) := by omega
              have i2 : (0 : Int) ≤ (k : Int) := by omega
              have hx := HG.out k hlt
              have cx := HX.out k hlt
              have hs := fair_sum HF.out hk
              have E1 : Hid (sumTo xs (k + 1) = sumTo xs k + gi xs k) := hid rfl
              generalize sumTo xs k = D at *
              generalize gi xs k = X at *
              go_wp2
              go_round
              case rel => exact ⟨k + 1, by omega, by go_num, by rw [E1.out]⟩
              case measure => simp [intOf]; omega
            · have hkl : k = xs.length := by omega
              subst hkl
              have i3 : ¬ ((xs.length : Int) < (xs.length : Int)) := by omega
              obtain ⟨hp1, hp2, hp3⟩ := HP.out
              obtain ⟨hc1, hc2, hc3⟩ := HC.out
              generalize sumTo xs xs.length = SX at *
              have d1 : (S50 == if s < 50 then s else 50) = true := by rw [HM50.out]; simp
              have d2 : decide (P1 ≤ SX) = true := by simp; omega
              have d3 : decide (SX < P1 + (xs.length : Int)) = true := by simp; omega
              have d4 : decide (P3 ≤ SX + s) = true := by simp; omega
              go_wp2
              all_goals (
                go_ret
                exact ⟨rfl, gr_then GY.out G6.out⟩)
end Go.Proofs.Ytmnfainepmnpeaa
