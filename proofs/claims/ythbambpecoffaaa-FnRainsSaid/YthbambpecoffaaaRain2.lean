/- More walks over rain: the wettest day, the longest dry time. -/
import Derived.Test.YthbambpecoffaaaRain1
namespace Go.Proofs.Ythbambpecoffaaa
open Go.RowKit

/-- The first of the greatest among the first k numbers. -/
def bestTo (xs : List Int) : Nat → Nat
  | 0 => 0
  | k + 1 => if gi xs (bestTo xs k) < gi xs k then k else bestTo xs k
theorem bestTo_le (xs : List Int) : ∀ k, bestTo xs k ≤ k
  | 0 => Nat.le_refl _
  | k + 1 => by
    have := bestTo_le xs k
    unfold bestTo
    split <;> omega
theorem bestTo_yes {xs : List Int} {k : Nat} (h : gi xs (bestTo xs k) < gi xs k) : bestTo xs (k + 1) = k := by rw [bestTo, if_pos h]
theorem bestTo_no {xs : List Int} {k : Nat} (h : ¬ gi xs (bestTo xs k) < gi xs k) : bestTo xs (k + 1) = bestTo xs k := by rw [bestTo, if_neg h]
def wettestV (xs : List Int) : Int := if rainB xs then (bestTo xs xs.length : Nat) else -1
theorem wettestDay_any {v : Value} {xs : List Int} (w : World) (h : Ints w v xs) :
    Calls Try.prog 34 #[v] w fun e w' => e = .returned (.int .i64 (wettestV xs)) ∧ w = w' := by
  unfold wettestV
  have H := hid h
  obtain ⟨_, a, cap, rfl, hcap, hmax, hat⟩ := h
  unfold maxLen at hmax
  cases hr : rainB xs
  · clear hat
    go_enter Try.func34, Try.ntmps34
    go_wp2_with (go_at_call 27; refine (rainOk_any _ H.out).mono ?_; rintro e w' ⟨rfl, rfl⟩)
    go_ret
    exact ⟨rfl, rfl⟩
  · go_enter Try.func34, Try.ntmps34
    go_wp2_with (go_at_call 27; refine (rainOk_any _ H.out).mono ?_; rintro e w' ⟨rfl, rfl⟩)
    go_loop [3, 11] (fun m i => ∃ k : Nat, k ≤ xs.length ∧ i = .int .i64 k ∧ m = .int .i64 (bestTo xs k : Nat)) (fun _ i => xs.length - (intOf i).toNat)
    case atStart => exact ⟨0, Nat.zero_le _, rfl, rfl⟩
    case round =>
      obtain ⟨k, hk, rfl, rfl⟩ := hrel
      have hb := bestTo_le xs k
      by_cases hlt : k < xs.length
      · obtain ⟨b, off, rfl, hc⟩ : ∃ b off, a = some ⟨b, off, none⟩ ∧ IntsAt w b off xs := by
          rcases hat with h0 | h0
          · subst h0; simp at hlt
          · exact h0
        have hcell := hc k hlt
        have hcell' := hc (bestTo xs k) (by omega)
        have e1 := @bestTo_yes xs k
        have e2 := @bestTo_no xs k
        have E1 := hid e1
        have E2 := hid e2
        clear hat hc e1 e2
        by_cases hq : gi xs (bestTo xs k) < gi xs k
        · go_wp2
          go_round
          case rel => exact ⟨k + 1, by omega, by go_num, by rw [E1.out hq]⟩
          case measure => simp [intOf]; omega
        · go_wp2
          go_round
          case rel => exact ⟨k + 1, by omega, by go_num, by rw [E2.out hq]⟩
          case measure => simp [intOf]; omega
      · have hkl : k = xs.length := by omega
        subst hkl
        clear hat
        go_wp2
        go_ret
        exact ⟨rfl, rfl⟩
theorem sWettestDay_any {v : Value} {xs : List Int} (w : World) (h : Ints w v xs) :
    Calls Try.prog 33 #[v] w fun e w' => e = .returned (.int .i64 (wettestV xs)) ∧ Gr w w' none := by
  unfold wettestV
  have H := hid h
  obtain ⟨_, a, cap, rfl, hcap, hmax, hat⟩ := h
  unfold maxLen at hmax
  cases hr : rainB xs
  · clear hat
    go_enter Try.func33, Try.ntmps33
    go_wp2_with (go_at_call 25; refine (sRainOk_any _ H.out).mono ?_; rintro e w' ⟨rfl, rfl⟩)
    go_ret
    exact ⟨rfl, gr_refl _ _⟩
  · go_enter Try.func33, Try.ntmps33
    go_wp2_with (go_at_call 25; refine (sRainOk_any _ H.out).mono ?_; rintro e w' ⟨rfl, rfl⟩)
    go_loopw [3, 4] (fun m i wr => ∃ k : Nat, k ≤ xs.length ∧ i = .int .i64 k ∧ m = .int .i64 (bestTo xs k : Nat) ∧ Gr w wr none) (fun _ i _ => xs.length - (intOf i).toNat)
    case atStart => exact ⟨0, Nat.zero_le _, rfl, rfl, gr_refl _ _⟩
    case round =>
      obtain ⟨k, hk, rfl, rfl, hg⟩ := hrel
      have hb := bestTo_le xs k
      by_cases hlt : k < xs.length
      · obtain ⟨b, off, rfl, hc⟩ : ∃ b off, a = some ⟨b, off, none⟩ ∧ IntsAt w b off xs := by
          rcases hat with h0 | h0
          · subst h0; simp at hlt
          · exact h0
        have hcell := hc.kept hg (by simp) k hlt
        have hcell' := hc.kept hg (by simp) (bestTo xs k) (by omega)
        have E1 := hid (@bestTo_yes xs k)
        have E2 := hid (@bestTo_no xs k)
        have i1 : (k : Int) < (xs.length : Int) := by omega
        have i2 : ((bestTo xs k : Nat) : Int) < (xs.length : Int) := by omega
        have i3 : (0 : Int) ≤ (k : Int) := by omega
        have i4 : (0 : Int) ≤ ((bestTo xs k : Nat) : Int) := by omega
        clear hat hc
        by_cases hq : gi xs (bestTo xs k) < gi xs k
        · go_wp2
          go_quiet (fail)
          go_wp2
          go_roundw
          case rel => exact ⟨k + 1, by omega, by go_num, by rw [E1.out hq], gr_drewN hg _⟩
          case measure => simp [intOf]; omega
        · have hq' : gi xs k ≤ gi xs (bestTo xs k) := by omega
          go_wp2
          go_quiet (fail)
          go_wp2
          go_roundw
          case rel => exact ⟨k + 1, by omega, by go_num, by rw [E2.out hq], gr_drewN hg _⟩
          case measure => simp [intOf]; omega
      · have hkl : k = xs.length := by omega
        subst hkl
        clear hat
        go_wp2
        go_ret
        exact ⟨rfl, hg⟩
/-- The days without rain in a row that end at day k. -/
def runTo (xs : List Int) : Nat → Nat
  | 0 => 0
  | k + 1 => if 0 < gi xs k then 0 else runTo xs k + 1
def dryTo (xs : List Int) : Nat → Nat
  | 0 => 0
  | k + 1 => max (dryTo xs k) (runTo xs (k + 1))
theorem runTo_le (xs : List Int) : ∀ k, runTo xs k ≤ k
  | 0 => Nat.le_refl _
  | k + 1 => by have := runTo_le xs k; unfold runTo; split <;> omega
theorem dryTo_le (xs : List Int) : ∀ k, dryTo xs k ≤ k
  | 0 => Nat.le_refl _
  | k + 1 => by have := dryTo_le xs k; have := runTo_le xs (k + 1); unfold dryTo; omega
def longestV (xs : List Int) : Int := if rainB xs then (dryTo xs xs.length : Nat) else -1
theorem longestDry_any {v : Value} {xs : List Int} (w : World) (h : Ints w v xs) :
    Calls Try.prog 36 #[v] w fun e w' => e = .returned (.int .i64 (longestV xs)) ∧ w = w' := by
  unfold longestV
  have H := hid h
  obtain ⟨_, a, cap, rfl, hcap, hmax, hat⟩ := h
  unfold maxLen at hmax
  cases hr : rainB xs
  · clear hat
    go_enter Try.func36, Try.ntmps36
    go_wp2_with (go_at_call 27; refine (rainOk_any _ H.out).mono ?_; rintro e w' ⟨rfl, rfl⟩)
    go_ret
    exact ⟨rfl, rfl⟩
  · go_enter Try.func36, Try.ntmps36
    go_wp2_with (go_at_call 27; refine (rainOk_any _ H.out).mono ?_; rintro e w' ⟨rfl, rfl⟩)
    go_loop [3, 4, 12] (fun m n i => ∃ k : Nat, k ≤ xs.length ∧ i = .int .i64 k ∧ m = .int .i64 (dryTo xs k : Nat) ∧ n = .int .i64 (runTo xs k : Nat)) (fun _ _ i => xs.length - (intOf i).toNat)
    case atStart => exact ⟨0, Nat.zero_le _, rfl, rfl, rfl⟩
    case round =>
      obtain ⟨k, hk, rfl, rfl, rfl⟩ := hrel
      have hb := runTo_le xs k
      have hb' := dryTo_le xs k
      by_cases hlt : k < xs.length
      · obtain ⟨b, off, rfl, hc⟩ : ∃ b off, a = some ⟨b, off, none⟩ ∧ IntsAt w b off xs := by
          rcases hat with h0 | h0
          · subst h0; simp at hlt
          · exact h0
        have hcell := hc k hlt
        clear hat hc
        by_cases hq : 0 < gi xs k
        · have e1 : runTo xs (k + 1) = 0 := by rw [runTo, if_pos hq]
          have e2 : dryTo xs (k + 1) = dryTo xs k := by rw [dryTo, e1]; omega
          have E1 := hid e1
          have E2 := hid e2
          clear e1 e2
          go_wp2
          go_round
          case rel => exact ⟨k + 1, by omega, by go_num, by rw [E2.out], by rw [E1.out]; rfl⟩
          case measure => simp [intOf]; omega
        · have e1 : runTo xs (k + 1) = runTo xs k + 1 := by rw [runTo, if_neg hq]
          have e2 : ((dryTo xs (k + 1) : Nat) : Int) = max (dryTo xs k : Int) (runTo xs k + 1) := by rw [dryTo, e1]; omega
          have E1 := hid e1
          have E2 := hid e2
          clear e1 e2
          go_wp2
          go_round
          case rel => exact ⟨k + 1, by omega, by go_num, congrArg (Value.int .i64) (by have := E2.out; split <;> omega), by rw [E1.out]; rfl⟩
          case measure => simp [intOf]; omega
      · have hkl : k = xs.length := by omega
        subst hkl
        clear hat
        go_wp2
        go_ret
        exact ⟨rfl, rfl⟩
theorem sLongestDry_any {v : Value} {xs : List Int} (w : World) (h : Ints w v xs) :
    Calls Try.prog 35 #[v] w fun e w' => e = .returned (.int .i64 (longestV xs)) ∧ w = w' := by
  unfold longestV
  have H := hid h
  obtain ⟨_, a, cap, rfl, hcap, hmax, hat⟩ := h
  unfold maxLen at hmax
  cases hr : rainB xs
  · clear hat
    go_enter Try.func35, Try.ntmps35
    go_wp2_with (go_at_call 25; refine (sRainOk_any _ H.out).mono ?_; rintro e w' ⟨rfl, rfl⟩)
    go_ret
    exact ⟨rfl, rfl⟩
  · go_enter Try.func35, Try.ntmps35
    go_wp2_with (go_at_call 25; refine (sRainOk_any _ H.out).mono ?_; rintro e w' ⟨rfl, rfl⟩)
    go_loop [3, 4, 5] (fun m n i => ∃ k : Nat, k ≤ xs.length ∧ i = .int .i64 k ∧ m = .int .i64 (dryTo xs k : Nat) ∧ n = .int .i64 (runTo xs k : Nat)) (fun _ _ i => xs.length - (intOf i).toNat)
    case atStart => exact ⟨0, Nat.zero_le _, rfl, rfl, rfl⟩
    case round =>
      obtain ⟨k, hk, rfl, rfl, rfl⟩ := hrel
      have hb := runTo_le xs k
      have hb' := dryTo_le xs k
      by_cases hlt : k < xs.length
      · obtain ⟨b, off, rfl, hc⟩ : ∃ b off, a = some ⟨b, off, none⟩ ∧ IntsAt w b off xs := by
          rcases hat with h0 | h0
          · subst h0; simp at hlt
          · exact h0
        have hcell := hc k hlt
        clear hat hc
        by_cases hq : 0 < gi xs k
        · have e1 : runTo xs (k + 1) = 0 := by rw [runTo, if_pos hq]
          have e2 : dryTo xs (k + 1) = dryTo xs k := by rw [dryTo, e1]; omega
          have E1 := hid e1
          have E2 := hid e2
          clear e1 e2
          go_wp2
          go_round
          case rel => exact ⟨k + 1, by omega, by go_num, by rw [E2.out], by rw [E1.out]; rfl⟩
          case measure => simp [intOf]; omega
        · have e1 : runTo xs (k + 1) = runTo xs k + 1 := by rw [runTo, if_neg hq]
          have e2 : ((dryTo xs (k + 1) : Nat) : Int) = max (dryTo xs k : Int) (runTo xs k + 1) := by rw [dryTo, e1]; omega
          have E1 := hid e1
          have E2 := hid e2
          clear e1 e2
          go_wp2
          go_round
          case rel => exact ⟨k + 1, by omega, by go_num, congrArg (Value.int .i64) (by have := E2.out; split <;> omega), by rw [E1.out]; rfl⟩
          case measure => simp [intOf]; omega
      · have hkl : k = xs.length := by omega
        subst hkl
        clear hat
        go_wp2
        go_ret
        exact ⟨rfl, rfl⟩
end Go.Proofs.Ythbambpecoffaaa
