/- Least room, greatest need, least start: the model's walks. -/
import Derived.Test.YtmnfainepmnpeaaYSize
namespace Go.Proofs.Ytmnfainepmnpeaa
open Go.RowKit

set_option maxHeartbeats 1000000 in
theorem sLeastRoom_any {v : Value} {xs : List Int} (r s n : Int) (w : World) (hv : Ints w v xs) (hl : xs.length ≤ 1048576) :
    Calls Try.prog 51 #[.agg #[.int .i64 r, .int .i64 s, v, .int .i64 n]] w fun e w' => e = .returned (.int .i64 (roomV' r s n xs)) ∧ Gr w w' none := by
  have HV := hid hv
  obtain ⟨_, a, cap, rfl, _, _, hat⟩ := hv
  have HQ : Hid (∀ m W, Gr w W none → Calls Try.prog 24 #[.agg #[.int .i64 r, .int .i64 s, .slice a xs.length cap, .int .i64 n], .int .i64 m] W (RetY 3 W (withR r s n xs m) (withS r s n xs m) xs n)) := fun m W hg => sWithRoom_any r s n m W (HV.out.on hg) hl
  clear hat
  cases hp : roomP r s n xs 100000
  · have e : roomV' r s n xs = -1 := by
      cases hy : yearB r s xs n
      · simp [roomV', hy]
      · have hL := leastV_spec (roomP r s n xs) (lo := 1) (hi := 100000) (by omega)
        rw [show roomV' r s n xs = upTo (leastV (roomP r s n xs) 1 100000) 100000 from by simp [roomV', hy]]
        refine if_pos ?_
        by_cases h : 100000 < leastV (roomP r s n xs) 1 100000
        · exact h
        · have := roomP_mono hy _ 100000 hL.1 (by omega) (Int.le_refl _) (hL.2.2.2 (by omega))
          rw [hp] at this; cases this
    rw [e]
    have HP : Hid (enoughB (withR r s n xs 100000) (withS r s n xs 100000) n xs = false) := hp
    clear hp e
    go_enter Try.func51, Try.ntmps51
    go_wp2_with fail
    refine (HQ.out _ _ (gr_alloc (gr_refl _ _) _)).mono ?_
    rintro e w1 ⟨u, rfl, ou, g1⟩
    have HU := hid ou.ints
    have HG := hid (gr_then (gr_alloc (gr_refl w none) _) g1)
    clear ou g1
    go_wp2_with fail
    refine (sIsEnough_any _ _ _ _ HU.out).mono ?_
    rw [HP.out]
    rintro e w2 ⟨rfl, g2⟩
    go_wp2
    go_ret
    exact ⟨rfl, gr_then HG.out g2⟩
  · have hy : yearB r s xs n = true := by
      cases hy : yearB r s xs n
      · have e0 : withOk r s n xs 100000 = false := by simp [withOk, hy]
        rw [roomP, withR, withS, e0] at hp
        simp [enoughB, hy] at hp
      · rfl
    have HM := hid (roomP_mono hy)
    have S0 : Hid (Search (roomP r s n xs) 1 100000 1 100000) := ⟨Int.le_refl _, by omega, by omega, fun m a b => by omega, fun _ => hp⟩
    have HE : Hid (∀ x, x ≤ 100000 → Least (roomP r s n xs) 1 100000 x → x = roomV' r s n xs) := fun x h1 hx => by
      have e := least_is (by omega) hx
      rw [show roomV' r s n xs = upTo (leastV (roomP r s n xs) 1 100000) 100000 from by simp [roomV', hy], ← e]
      exact (if_neg (by omega)).symm
    have HP : Hid (enoughB (withR r s n xs 100000) (withS r s n xs 100000) n xs = true) := hp
    generalize roomV' r s n xs = LV at *
    clear hp hy
    go_enter Try.func51, Try.ntmps51
    go_wp2_with fail
    refine (HQ.out _ _ (gr_alloc (gr_refl _ _) _)).mono ?_
    rintro e w1 ⟨u, rfl, ou, g1⟩
    have HU := hid ou.ints
    have BY := hid ((blk_new w #[.int .i64 r, .int .i64 s, .slice a xs.length cap, .int .i64 n] 27).on g1)
    have HG := hid (gr_then (gr_alloc (gr_refl w none) _) g1)
    clear ou g1
    go_wp2_with fail
    refine (sIsEnough_any _ _ _ _ HU.out).mono ?_
    rw [HP.out]
    rintro e w2 ⟨rfl, g2⟩
    have BY2 := hid (BY.out.on g2)
    have HG2 := hid (gr_then HG.out g2)
    clear g2 HU BY HG
    go_wp2_with fail
    go_loopg [3, 4] 100000 (fun gk l h wr => ∃ l' h' : Int, l = .int .i64 l' ∧ h = .int .i64 h' ∧ Search (roomP r s n xs) 1 100000 l' h' ∧ h' ≤ 100000 ∧ gk = (h' - l').toNat + 1 ∧ Gr w wr none ∧ Blk wr w.heap.size #[.int .i64 r, .int .i64 s, .slice a xs.length cap, .int .i64 n] 27)
    case atStart => exact ⟨1, 100000, rfl, rfl, S0.out, by omega, by omega, HG2.out, BY2.out⟩
    case round =>
      obtain ⟨l, h, rfl, rfl, hs, hh, hgk, hg, hB⟩ := hrel
      have b1 := hs.1
      have b2 := hs.2.1
      have HS := hid hs
      have HGK := hid hgk
      have HG := hid hg
      have HB := hid hB
      obtain ⟨q0, q1, q2, q3, -⟩ := cells4 hB
      clear S0 hs hgk hg hB HG2 BY2
      by_cases hlt : l < h
      · obtain ⟨m, hm⟩ : ∃ m : Int, m = (l + h) / 2 := ⟨_, rfl⟩; have m1 : l ≤ m := (by omega); have m2 : m < h := (by omega); have hdv : (l + h).tdiv 2 = m := (by rw [hm]; exact Int.tdiv_eq_ediv_of_nonneg (by omega)); have hdv' : (l + h) / 2 = m := hm.symm; have hw1 : IntKind.i64.wrap (l + h) = l + h := IntWalk.i64_in _ (by omega)
        clear hm
        cases hp : roomP r s n xs m
        all_goals
          have HP2 := hid hp
          have HP3 : Hid (enoughB (withR r s n xs m) (withS r s n xs m) n xs = _) := hid hp
          clear hp
          go_wp2_with fail
          refine (HQ.out _ _ HG.out).mono ?_
          rintro e w3 ⟨u, rfl, ou, g3⟩
          have HU := hid ou.ints
          have B3 := hid (HB.out.on g3)
          have HG3 := hid (gr_then HG.out g3)
          clear ou g3
          go_wp2_with fail
          refine (sIsEnough_any _ _ _ _ HU.out).mono ?_
          rw [HP3.out]
          rintro e w4 ⟨rfl, g4⟩
          have HG4 := hid (gr_then HG3.out g4)
          have B4 := hid (B3.out.on g4)
          clear g4 hdv hdv' hw1 HB HG HG3 B3 HU q0 q1 q2 q3
          go_wp2
        · go_roundg ((h - (m + 1)).toNat + 1)
          case measure => have := HGK.out; omega
          case rel => exact ⟨m + 1, h, rfl, rfl, search_no HM.out HS.out m1 m2 HP2.out, hh, rfl, HG4.out, B4.out⟩
        · go_roundg ((m - l).toNat + 1)
          case measure => have := HGK.out; omega
          case rel => exact ⟨l, m, rfl, rfl, search_yes HS.out m1 m2 HP2.out, by omega, rfl, HG4.out, B4.out⟩
      · have HL := hid (HE.out l (by omega) (search_end HS.out hlt))
        clear q0 q1 q2 q3
        go_wp2
        go_ret
        exact ⟨by rw [HL.out]; rfl, HG.out⟩
set_option maxHeartbeats 1000000 in
theorem sMostNeed_any {v : Value} {xs : List Int} (r s n : Int) (w : World) (hv : Ints w v xs) (hl : xs.length ≤ 1048576) :
    Calls Try.prog 49 #[.agg #[.int .i64 r, .int .i64 s, v, .int .i64 n]] w fun e w' => e = .returned (.int .i64 (needV r s n xs)) ∧ Gr w w' none := by
  have HV := hid hv
  obtain ⟨_, a, cap, rfl, _, _, hat⟩ := hv
  have HQ : Hid (∀ m W, Gr w W none → Calls Try.prog 74 #[.agg #[.int .i64 r, .int .i64 s, .slice a xs.length cap, .int .i64 n], .int .i64 m] W (RetY 3 W r s xs m)) := fun m W hg => withNeed_any r s n m W (HV.out.on hg) hl
  clear hat
  cases hy : yearB r s xs n
  · rw [show needV r s n xs = -1 from by simp [needV, hy]]
    have HY := hid hy
    clear hy
    go_enter Try.func49, Try.ntmps49
    go_wp2_with fail
    refine (sYearOk_any _ _ _ _ (HV.out.on (gr_alloc (gr_refl _ _) _))).mono ?_
    rw [HY.out]
    rintro e w1 ⟨rfl, g1⟩
    go_wp2
    go_ret
    exact ⟨rfl, gr_then (gr_alloc (gr_refl _ _) _) g1⟩
  · have HM := hid (needP_mono hy)
    have h00 : needP r s xs 0 = false := by rw [needP, enough_zero hy]; rfl
    have S0 : Hid (Search (needP r s xs) 0 1000000 (0 + 1) (1000000 + 1)) := ⟨by omega, by omega, by omega, fun m a b => (by
      have e : m = 0 := (by omega)
      rw [e]; exact h00), fun h => by omega⟩
    have HE : Hid (∀ x, Least (needP r s xs) 0 1000000 (x + 1) → x = needV r s n xs) := fun x hx => by
      have e := least_is (by omega) hx
      rw [show needV r s n xs = leastV (needP r s xs) 0 1000000 - 1 from by simp [needV, hy], ← e]; omega
    have HY := hid hy
    generalize needV r s n xs = LV at *
    clear hy h00
    go_enter Try.func49, Try.ntmps49
    go_wp2_with fail
    refine (sYearOk_any _ _ _ _ (HV.out.on (gr_alloc (gr_refl _ _) _))).mono ?_
    rw [HY.out]
    rintro e w2 ⟨rfl, g2⟩
    have BY2 := hid ((blk_new w #[.int .i64 r, .int .i64 s, .slice a xs.length cap, .int .i64 n] 27).on g2)
    have HG2 := hid (gr_then (gr_alloc (gr_refl w none) _) g2)
    clear g2
    go_wp2_with fail
    go_loopg [3, 4] 1000001 (fun gk l h wr => ∃ l' h' : Int, l = .int .i64 l' ∧ h = .int .i64 h' ∧ Search (needP r s xs) 0 1000000 (l' + 1) (h' + 1) ∧ 0 ≤ l' ∧ gk = (h' - l').toNat + 1 ∧ Gr w wr none ∧ Blk wr w.heap.size #[.int .i64 r, .int .i64 s, .slice a xs.length cap, .int .i64 n] 27)
    case atStart => exact ⟨0, 1000000, rfl, rfl, S0.out, by omega, by omega, HG2.out, BY2.out⟩
    case round =>
      obtain ⟨l, h, rfl, rfl, hs, hh, hgk, hg, hB⟩ := hrel
      have b2 := hs.2.1
      have b3 := hs.2.2.1
      have HS := hid hs
      have HGK := hid hgk
      have HG := hid hg
      have HB := hid hB
      obtain ⟨q0, q1, q2, q3, -⟩ := cells4 hB
      clear S0 hs hgk hg hB HG2 BY2
      by_cases hlt : l < h
      · obtain ⟨m, hm⟩ : ∃ m : Int, m = (l + h + 1) / 2 := ⟨_, rfl⟩
        have m1 : l + 1 ≤ m := by omega
        have m2 : m < h + 1 := by omega
        have hdv : (l + h + 1).tdiv 2 = m := by rw [hm]; exact Int.tdiv_eq_ediv_of_nonneg (by omega)
        have hdv' : (l + h + 1) / 2 = m := hm.symm
        clear hm
        cases hp : enoughB r s m xs
        all_goals
          have HP2 : Hid (needP r s xs m = !_) := hid (congrArg (fun b => !b) hp)
          have HP3 := hid hp
          clear hp
          go_wp2_with fail
          refine (HQ.out _ _ HG.out).mono ?_
          rintro e w3 ⟨u, rfl, ou, g3⟩
          have HU := hid ou.ints
          have B3 := hid (HB.out.on g3)
          have HG3 := hid (gr_then HG.out g3)
          clear ou g3
          go_wp2_with fail
          refine (sIsEnough_any _ _ _ _ HU.out).mono ?_
          rw [HP3.out]
          rintro e w4 ⟨rfl, g4⟩
          have HG4 := hid (gr_then HG3.out g4)
          have B4 := hid (B3.out.on g4)
          clear g4 hdv hdv' HB HG HG3 B3 HU q0 q1 q2 q3
          go_wp2
        · go_roundg ((m - 1 - l).toNat + 1)
          case measure => have := HGK.out; omega
          case rel => exact ⟨l, m - 1, rfl, rfl, by rw [show m - 1 + 1 = m by omega]; exact search_yes HS.out m1 m2 HP2.out, hh, rfl, HG4.out, B4.out⟩
        · go_roundg ((h - m).toNat + 1)
          case measure => have := HGK.out; omega
          case rel => exact ⟨m, h, rfl, rfl, search_no HM.out HS.out m1 m2 HP2.out, by omega, rfl, HG4.out, B4.out⟩
      · have HL := hid (HE.out l (search_end HS.out (by omega)))
        clear q0 q1 q2 q3
        go_wp2
        go_ret
        exact ⟨by rw [HL.out]; rfl, HG.out⟩
set_option maxHeartbeats 1000000 in
theorem sLeastStart_any {v : Value} {xs : List Int} (r s n : Int) (w : World) (hv : Ints w v xs) (hl : xs.length ≤ 1048576) :
    Calls Try.prog 50 #[.agg #[.int .i64 r, .int .i64 s, v, .int .i64 n]] w fun e w' => e = .returned (.int .i64 (startV r s n xs)) ∧ Gr w w' none := by
  have HV := hid hv
  obtain ⟨_, a, cap, rfl, _, _, hat⟩ := hv
  have HQ : Hid (∀ m W, Gr w W none → Calls Try.prog 75 #[.agg #[.int .i64 r, .int .i64 s, .slice a xs.length cap, .int .i64 n], .int .i64 m] W (RetY 3 W r m xs n)) := fun m W hg => withStart_any r s n m W (HV.out.on hg) hl
  clear hat
  cases hy : yearB r s xs n
  · rw [show startV r s n xs = -1 from by simp [startV, hy]]
    have HY := hid hy
    clear hy
    go_enter Try.func50, Try.ntmps50
    go_wp2_with fail
    refine (sYearOk_any _ _ _ _ (HV.out.on (gr_alloc (gr_refl _ _) _))).mono ?_
    rw [HY.out]
    rintro e w1 ⟨rfl, g1⟩
    go_wp2
    go_ret
    exact ⟨rfl, gr_then (gr_alloc (gr_refl _ _) _) g1⟩
  obtain ⟨hr, -⟩ := yearB_parts hy
  cases hp : startP r n xs r
  · have e : startV r s n xs = -1 := by
      have hL := leastV_spec (startP r n xs) (lo := 0) (hi := r) (by omega)
      rw [show startV r s n xs = upTo (leastV (startP r n xs) 0 r) r from by simp [startV, hy]]
      refine if_pos ?_
      by_cases h : r < leastV (startP r n xs) 0 r
      · exact h
      · have := startP_mono hy _ r hL.1 (by omega) (Int.le_refl _) (hL.2.2.2 (by omega))
        rw [hp] at this; cases this
    rw [e]
    have HP : Hid (enoughB r r n xs = false) := hp
    have HY := hid hy
    clear hp e hy
    go_enter Try.func50, Try.ntmps50
    go_wp2_with fail
    refine (sYearOk_any _ _ _ _ (HV.out.on (gr_alloc (gr_refl _ _) _))).mono ?_
    rw [HY.out]
    rintro e w1 ⟨rfl, g1⟩
    have BY := hid ((blk_new w #[.int .i64 r, .int .i64 s, .slice a xs.length cap, .int .i64 n] 27).on g1)
    have HG := hid (gr_then (gr_alloc (gr_refl w none) _) g1)
    obtain ⟨q0, q1, q2, q3, -⟩ := cells4 BY.out
    clear g1
    go_wp2_with fail
    refine (HQ.out _ _ HG.out).mono ?_
    rintro e w2 ⟨u, rfl, ou, g2⟩
    have HU := hid ou.ints
    have HG2 := hid (gr_then HG.out g2)
    clear ou g2 q0 q1 q2 q3
    go_wp2_with fail
    refine (sIsEnough_any _ _ _ _ HU.out).mono ?_
    rw [HP.out]
    rintro e w3 ⟨rfl, g3⟩
    go_wp2
    go_ret
    exact ⟨rfl, gr_then HG2.out g3⟩
  · have HM := hid (startP_mono hy)
    have S0 : Hid (Search (startP r n xs) 0 r 0 r) := ⟨Int.le_refl _, by omega, by omega, fun m a b => by omega, fun _ => hp⟩
    have HE : Hid (∀ x, x ≤ r → Least (startP r n xs) 0 r x → x = startV r s n xs) := fun x h1 hx => by
      have e := least_is (by omega) hx
      rw [show startV r s n xs = upTo (leastV (startP r n xs) 0 r) r from by simp [startV, hy], ← e]
      exact (if_neg (by omega)).symm
    have HP : Hid (enoughB r r n xs = true) := hp
    have HY := hid hy
    generalize startV r s n xs = LV at *
    clear hp hy
    go_enter Try.func50, Try.ntmps50
    go_wp2_with fail
    refine (sYearOk_any _ _ _ _ (HV.out.on (gr_alloc (gr_refl _ _) _))).mono ?_
    rw [HY.out]
    rintro e w1 ⟨rfl, g1⟩
    have BY := hid ((blk_new w #[.int .i64 r, .int .i64 s, .slice a xs.length cap, .int .i64 n] 27).on g1)
    have HG := hid (gr_then (gr_alloc (gr_refl w none) _) g1)
    obtain ⟨q0, q1, q2, q3, -⟩ := cells4 BY.out
    clear g1
    go_wp2_with fail
    refine (HQ.out _ _ HG.out).mono ?_
    rintro e w2 ⟨u, rfl, ou, g2⟩
    have HU := hid ou.ints
    have BY1 := hid (BY.out.on g2)
    have HG1 := hid (gr_then HG.out g2)
    clear ou g2 q0 q1 q2 q3 BY HG
    go_wp2_with fail
    refine (sIsEnough_any _ _ _ _ HU.out).mono ?_
    rw [HP.out]
    rintro e w3 ⟨rfl, g3⟩
    have BY2 := hid (BY1.out.on g3)
    have HG2 := hid (gr_then HG1.out g3)
    obtain ⟨q0, -⟩ := cells4 BY2.out
    clear g3 HU BY1 HG1
    go_wp2_with fail
    go_loopg [3, 4] (r.toNat + 1) (fun gk l h wr => ∃ l' h' : Int, l = .int .i64 l' ∧ h = .int .i64 h' ∧ Search (startP r n xs) 0 r l' h' ∧ h' ≤ r ∧ gk = (h' - l').toNat + 1 ∧ Gr w wr none ∧ Blk wr w.heap.size #[.int .i64 r, .int .i64 s, .slice a xs.length cap, .int .i64 n] 27)
    case atStart => exact ⟨0, r, rfl, rfl, S0.out, by omega, by omega, HG2.out, BY2.out⟩
    case round =>
      obtain ⟨l, h, rfl, rfl, hs, hh, hgk, hg, hB⟩ := hrel
      have b1 := hs.1
      have b2 := hs.2.1
      have HS := hid hs
      have HGK := hid hgk
      have HG := hid hg
      have HB := hid hB
      clear q0
      obtain ⟨q0, q1, q2, q3, -⟩ := cells4 hB
      clear S0 hs hgk hg hB HG2 BY2
      by_cases hlt : l < h
      · obtain ⟨m, hm⟩ : ∃ m : Int, m = (l + h) / 2 := ⟨_, rfl⟩; have m1 : l ≤ m := (by omega); have m2 : m < h := (by omega); have hdv : (l + h).tdiv 2 = m := (by rw [hm]; exact Int.tdiv_eq_ediv_of_nonneg (by omega)); have hdv' : (l + h) / 2 = m := hm.symm; have hw1 : IntKind.i64.wrap (l + h) = l + h := IntWalk.i64_in _ (by omega)
        clear hm
        cases hp : startP r n xs m
        all_goals
          have HP2 := hid hp
          have HP3 : Hid (enoughB r m n xs = _) := hid hp
          clear hp
          go_wp2_with fail
          refine (HQ.out _ _ HG.out).mono ?_
          rintro e w3 ⟨u, rfl, ou, g3⟩
          have HU := hid ou.ints
          have B3 := hid (HB.out.on g3)
          have HG3 := hid (gr_then HG.out g3)
          clear ou g3
          go_wp2_with fail
          refine (sIsEnough_any _ _ _ _ HU.out).mono ?_
          rw [HP3.out]
          rintro e w4 ⟨rfl, g4⟩
          have HG4 := hid (gr_then HG3.out g4)
          have B4 := hid (B3.out.on g4)
          clear g4 hdv hdv' hw1 HB HG HG3 B3 HU q0 q1 q2 q3
          go_wp2
        · go_roundg ((h - (m + 1)).toNat + 1)
          case measure => have := HGK.out; omega
          case rel => exact ⟨m + 1, h, rfl, rfl, search_no HM.out HS.out m1 m2 HP2.out, hh, rfl, HG4.out, B4.out⟩
        · go_roundg ((m - l).toNat + 1)
          case measure => have := HGK.out; omega
          case rel => exact ⟨l, m, rfl, rfl, search_yes HS.out m1 m2 HP2.out, by omega, rfl, HG4.out, B4.out⟩
      · have HL := hid (HE.out l (by omega) (search_end HS.out hlt))
        clear q0 q1 q2 q3
        go_wp2
        go_ret
        exact ⟨by rw [HL.out]; rfl, HG.out⟩
end Go.Proofs.Ytmnfainepmnpeaa
