/- What the model reads off a year's lists. -/
import Derived.Test.YtmnfainepmnpeaaYSpec
import Derived.BigQuiet
namespace Go.Proofs.Ytmnfainepmnpeaa
open Go.RowKit

theorem l06Sum_any {v : Value} {xs : List Int} (w : World) (h : Ints w v xs) (hf : Fair xs) :
    Calls Try.prog 57 #[v] w fun e w' => e = .returned (.int .i64 (sumTo xs xs.length)) ∧ w = w' := by
  obtain ⟨_, a, cap, rfl, hcap, hmax, hat⟩ := h
  unfold maxLen at hmax
  have HF := hid hf
  clear hf
  go_enter Try.func57, Try.ntmps57
  go_wp2
  go_loop [3, 4] (fun n i => ∃ k : Nat, k ≤ xs.length ∧ i = .int .i64 k ∧ n = .int .i64 (sumTo xs k)) (fun _ i => xs.length - (intOf i).toNat)
  case atStart => exact ⟨0, Nat.zero_le _, rfl, rfl⟩
  case round =>
    obtain ⟨k, hk, rfl, rfl⟩ := hrel
    by_cases hlt : k < xs.length
    · obtain ⟨b, off, rfl, hc⟩ : ∃ b off, a = some ⟨b, off, none⟩ ∧ IntsAt w b off xs := by
        rcases hat with h0 | h0
        · subst h0; simp at hlt
        · exact h0
      have hcell := hc k hlt
      have b1 := HF.out.2 k hlt
      have b2 := fair_sum HF.out hk
      clear hat hc
      go_wp2
      go_round
      case rel => exact ⟨k + 1, by omega, by go_num, rfl⟩
      case measure => simp [intOf]; omega
    · have hkl : k = xs.length := by omega
      subst hkl
      clear hat
      go_wp2
      go_ret
      exact ⟨rfl, rfl⟩
theorem fair_days {f : Nat → Int} {k : Nat} (hk : k ≤ 400) (h : ∀ i, i < k → 0 ≤ f i ∧ f i ≤ 1000000) : Fair (daysTo f k) :=
  ⟨by rw [daysTo_length]; omega, fun i hi => by rw [daysTo_length] at hi; rw [gi_days hi]; have := h i hi; omega⟩
theorem sLevelsOf_any {v : Value} {xs : List Int} (r s n : Int) (w : World) (hv : Ints w v xs) :
    Calls Try.prog 44 #[.agg #[.int .i64 r, .int .i64 s, v, .int .i64 n]] w (RetI 3 w (levelsV r s n xs)) := by
  have HV := hid hv
  obtain ⟨_, a, cap, rfl, hcap, hmax, hat⟩ := hv
  clear hat
  go_enter Try.func44, Try.ntmps44
  go_wp2_with fail
  refine (l06Run_any _ _ _ _ (HV.out.on (gr_alloc (gr_refl _ _) _))).mono ?_
  rintro e w1 ⟨p, q, t, rfl, o1, o2, o3, g1⟩
  obtain ⟨p1, q1, rfl⟩ := sl_own o1.2
  have HO := hid (OwnI.mono (B' := w.heap.size) o1 (by simp))
  have HG := hid (gr_then (gr_alloc (gr_refl w none) _) g1)
  clear o1 o2 o3 g1
  go_wp2
  go_ret
  exact ⟨_, rfl, HO.out, HG.out⟩
theorem sLostWater_any {v : Value} {xs : List Int} (r s n : Int) (w : World) (hv : Ints w v xs) :
    Calls Try.prog 28 #[.agg #[.int .i64 r, .int .i64 s, v, .int .i64 n]] w fun e w' => e = .returned (.int .i64 (lostV r s n xs)) ∧ Gr w w' none := by
  have HV := hid hv
  obtain ⟨_, a, cap, rfl, hcap, hmax, hat⟩ := hv
  clear hat
  cases hy : yearB r s xs n
  · rw [show lostV r s n xs = -1 from by simp [lostV, hy]]
    have HY := hid hy
    clear hy
    go_enter Try.func28, Try.ntmps28
    go_wp2_with fail
    refine (sYearOk_any _ _ _ _ (HV.out.on (gr_alloc (gr_refl _ _) _))).mono ?_
    rw [HY.out]
    rintro e w1 ⟨rfl, g1⟩
    go_wp2
    go_ret
    exact ⟨rfl, (by repeat (first | (with_reducible exact gr_refl _ _) | (with_reducible assumption) | (with_reducible refine gr_drew ?_) | (with_reducible refine gr_drewN ?_ _) | (with_reducible refine gr_alloc ?_ _) | (with_reducible refine gr_set ?_ (.inr (by simp; done)) _) | (with_reducible refine gr_set ?_ (.inr (by simp; omega)) _) | (with_reducible refine gr_then ?_ (by with_reducible assumption))))⟩
  · obtain ⟨-, -, hl, -, -⟩ := yearB_parts hy
    have hb : ∀ i, i < xs.length → 0 ≤ lostAt r s n xs i ∧ lostAt r s n xs i ≤ 1000000 := fun _ h => (day_bd hy h).2.2.1
    have HF := hid (fair_days hl.2 hb)
    have HE : Hid (sumTo (daysTo (lostAt r s n xs) xs.length) (daysTo (lostAt r s n xs) xs.length).length = sumF (lostAt r s n xs) xs.length) := by rw [daysTo_length]; exact sum_days _ _ _ (Nat.le_refl _)
    rw [show lostV r s n xs = sumF (lostAt r s n xs) xs.length from by simp [lostV, hy]]
    have HL : Hid (lostL r s n xs = daysTo (lostAt r s n xs) xs.length) := by simp [lostL, hy, Hid]
    have HY := hid hy
    clear hy hb
    go_enter Try.func28, Try.ntmps28
    go_wp2_with fail
    refine (sYearOk_any _ _ _ _ (HV.out.on (gr_alloc (gr_refl _ _) _))).mono ?_
    rw [HY.out]
    rintro e w1 ⟨rfl, g1⟩
    obtain ⟨p0, p1, p2, p3, lA⟩ := (yBox_new w 27 r s (.slice a xs.length cap) n).on g1
    have G1 := hid (gr_then (gr_alloc (gr_refl w none) _) g1)
    clear g1
    go_wp2_with fail
    refine (l06Run_any _ _ _ _ (HV.out.on G1.out)).mono ?_
    rw [HL.out]
    rintro e w2 ⟨p, q, t, rfl, o1, o2, o3, g2⟩
    have HO := hid o2.ints
    have HG := hid (gr_then G1.out g2)
    clear o1 o2 o3 g2 p0 p1 p2 p3 lA
    go_wp2_with fail
    refine (l06Sum_any _ HO.out HF.out).mono ?_
    rw [HE.out]
    rintro e w' ⟨rfl, rfl⟩
    go_wp2
    go_ret
    exact ⟨rfl, HG.out⟩
theorem sTakenWater_any {v : Value} {xs : List Int} (r s n : Int) (w : World) (hv : Ints w v xs) :
    Calls Try.prog 30 #[.agg #[.int .i64 r, .int .i64 s, v, .int .i64 n]] w fun e w' => e = .returned (.int .i64 (takenV r s n xs)) ∧ Gr w w' none := by
  have HV := hid hv
  obtain ⟨_, a, cap, rfl, hcap, hmax, hat⟩ := hv
  clear hat
  cases hy : yearB r s xs n
  · rw [show takenV r s n xs = -1 from by simp [takenV, hy]]
    have HY := hid hy
    clear hy
    go_enter Try.func30, Try.ntmps30
    go_wp2_with fail
    refine (sYearOk_any _ _ _ _ (HV.out.on (gr_alloc (gr_refl _ _) _))).mono ?_
    rw [HY.out]
    rintro e w1 ⟨rfl, g1⟩
    go_wp2
    go_ret
    exact ⟨rfl, (by repeat (first | (with_reducible exact gr_refl _ _) | (with_reducible assumption) | (with_reducible refine gr_drew ?_) | (with_reducible refine gr_drewN ?_ _) | (with_reducible refine gr_alloc ?_ _) | (with_reducible refine gr_set ?_ (.inr (by simp; done)) _) | (with_reducible refine gr_set ?_ (.inr (by simp; omega)) _) | (with_reducible refine gr_then ?_ (by with_reducible assumption))))⟩
  · obtain ⟨-, -, hl, -, -⟩ := yearB_parts hy
    have hb : ∀ i, i < xs.length → 0 ≤ drawnAt r s n xs i ∧ drawnAt r s n xs i ≤ 1000000 := fun _ h => (day_bd hy h).2.2.2.1
    have HF := hid (fair_days hl.2 hb)
    have HE : Hid (sumTo (daysTo (drawnAt r s n xs) xs.length) (daysTo (drawnAt r s n xs) xs.length).length = sumF (drawnAt r s n xs) xs.length) := by rw [daysTo_length]; exact sum_days _ _ _ (Nat.le_refl _)
    rw [show takenV r s n xs = sumF (drawnAt r s n xs) xs.length from by simp [takenV, hy]]
    have HL : Hid (drawnL r s n xs = daysTo (drawnAt r s n xs) xs.length) := by simp [drawnL, hy, Hid]
    have HY := hid hy
    clear hy hb
    go_enter Try.func30, Try.ntmps30
    go_wp2_with fail
    refine (sYearOk_any _ _ _ _ (HV.out.on (gr_alloc (gr_refl _ _) _))).mono ?_
    rw [HY.out]
    rintro e w1 ⟨rfl, g1⟩
    obtain ⟨p0, p1, p2, p3, lA⟩ := (yBox_new w 27 r s (.slice a xs.length cap) n).on g1
    have G1 := hid (gr_then (gr_alloc (gr_refl w none) _) g1)
    clear g1
    go_wp2_with fail
    refine (l06Run_any _ _ _ _ (HV.out.on G1.out)).mono ?_
    rw [HL.out]
    rintro e w2 ⟨p, q, t, rfl, o1, o2, o3, g2⟩
    have HO := hid o3.ints
    have HG := hid (gr_then G1.out g2)
    clear o1 o2 o3 g2 p0 p1 p2 p3 lA
    go_wp2_with fail
    refine (l06Sum_any _ HO.out HF.out).mono ?_
    rw [HE.out]
    rintro e w' ⟨rfl, rfl⟩
    go_wp2
    go_ret
    exact ⟨rfl, HG.out⟩
end Go.Proofs.Ytmnfainepmnpeaa
