/- The law over drawn rain: sums, wettest day and week, dry times. -/
import Derived.Test.YthbambpecoffaaaDrawRain
import Derived.Test.YthbambpecoffaaaRain2
import Derived.Test.YthbambpecoffaaaPart
namespace Go.Proofs.Ythbambpecoffaaa
open Go.RowKit

theorem small_rain {xs : List Int} (h : Small xs) : rainB xs = true := by
  obtain ⟨h1, h2, h3⟩ := h
  rw [rainB, inB_mk (by omega), Bool.true_and]
  exact allB_mk fun i hi => inB_mk (by have := h3 _ (gi_mem hi); omega)
theorem best_max {xs : List Int} : ∀ k i, i < k → gi xs i ≤ gi xs (bestTo xs k) := by
  intro k
  induction k with
  | zero => intro i h; omega
  | succ k ih =>
    intro i h
    unfold bestTo
    by_cases e : i = k
    · subst e; split <;> omega
    · have := ih i (by omega)
      split <;> omega
theorem best_lt {xs : List Int} : ∀ k, 0 < k → bestTo xs k < k := by
  intro k
  induction k with
  | zero => intro h; omega
  | succ k ih =>
    intro _
    unfold bestTo
    split
    · omega
    · by_cases h0 : k = 0
      · subst h0; simp [bestTo]
      · have := ih (by omega); omega
theorem place_spec {xs : List Int} (hf : Fair xs) {d : Nat} : ∀ k, 0 < k → k + d ≤ xs.length + 1 → ∃ p : Nat, placeTo xs d 0 k = p ∧ p < k ∧ part xs d p = mostTo xs d k := by
  intro k
  induction k with
  | zero => intro h; omega
  | succ k ih =>
    intro _ h
    have hp := part_bd hf (d := d) (k := k) (by omega)
    by_cases hlt : mostTo xs d k < part xs d k
    · exact ⟨k, by rw [placeTo, if_pos hlt], by omega, by rw [mostTo, if_pos hlt]⟩
    · by_cases h0 : k = 0
      · subst h0
        exact absurd (by show (-1 : Int) < _; omega) hlt
      · obtain ⟨p, e1, e2, e3⟩ := ih (by omega) (by omega)
        exact ⟨p, by rw [placeTo, if_neg hlt]; exact e1, by omega, by rw [mostTo, if_neg hlt]; exact e3⟩
theorem wetV_of {xs : List Int} (hr : rainB xs = true) {d : Nat} (h1 : 1 ≤ d) (h2 : d ≤ xs.length) (s : Int) : wetV xs d s = decide (s ≤ mostTo xs d (xs.length - d + 1)) := by
  rw [wetV, hr, inB_mk (by omega), Int.toNat_natCast]; simp
theorem wet_yes {xs : List Int} (hr : rainB xs = true) {d : Nat} (h1 : 1 ≤ d) {i : Nat} (h2 : i + d ≤ xs.length) {s : Int} (h : s ≤ part xs d i) : wetV xs d s = true := by
  rw [wetV_of hr h1 (by omega)]
  have := most_part (xs := xs) (d := d) (xs.length - d + 1) i (by omega)
  simp; omega
theorem part_one (xs : List Int) (i : Nat) : part xs 1 i = gi xs i := by unfold part; simp only [sumTo]; omega
theorem part_all (xs : List Int) : part xs xs.length 0 = sumTo xs xs.length := by unfold part; simp [sumTo]
theorem run_mul {xs : List Int} {k : Nat} (h : 0 ≤ gi xs k) : ((runTo xs (k + 1) : Nat) : Int) = ((runTo xs k : Nat) + 1) * (if (gi xs k == 0) = true then 1 else 0) := by
  have e1 : runTo xs (k + 1) = if 0 < gi xs k then 0 else runTo xs k + 1 := rfl
  rw [e1]
  by_cases e : gi xs k = 0
  · rw [if_neg (by omega)]; simp [e]
  · rw [if_pos (by omega)]; simp [e]
theorem dry_max {xs : List Int} (k : Nat) : ((dryTo xs (k + 1) : Nat) : Int) = if ((dryTo xs k : Nat) : Int) < (runTo xs (k + 1) : Nat) then ((runTo xs (k + 1) : Nat) : Int) else (dryTo xs k : Nat) := by
  rw [dryTo]; split <;> omega
set_option maxRecDepth 100000 in
set_option maxHeartbeats 4000000 in
theorem walk_FnRains (v : Value) (n : Nat) (w : World) (h : BytesN w v n) :
    Calls Try.prog 16 #[v] w fun e w' => e = .returned (.bool true) ∧ Gr w w' none := by
  by_cases hn : n ≤ 1048576
  case neg =>
    have hb : decide (1048576 < (n : Int)) = true := by simp; omega
    go_enter Try.func16, Try.ntmps16
    go_wp2_with fail
    refine (big_any _ h).mono ?_
    rw [hb]
    rintro e w' ⟨rfl, rfl⟩
    go_wp2
    go_ret
    exact ⟨rfl, gr_refl _ _⟩
  case pos =>
  have hb : decide (1048576 < (n : Int)) = false := by simp; omega
  go_enter Try.func16, Try.ntmps16
  go_wp2_with fail
  refine (big_any _ h).mono ?_
  rw [hb]
  rintro e w' ⟨rfl, rfl⟩
  go_wp2_with fail
  refine (drawRain_any _ h hn).mono ?_
  rintro e w1 ⟨u, xs, rfl, hsm, ou, g1⟩
  have hr := small_rain hsm
  have hlen : 1 ≤ xs.length ∧ xs.length ≤ 20 := ⟨hsm.1, hsm.2.1⟩
  have HG : Hid (∀ i, i < xs.length → 0 ≤ gi xs i ∧ gi xs i ≤ 39) := fun i hi => hsm.2.2 _ (gi_mem hi)
  have HF := hid (fair_rain hr)
  have HU := hid ou.ints
  obtain ⟨_, a, cap, rfl, hcap, hmax, hat⟩ := ou.ints
  unfold maxLen at hmax
  obtain ⟨b, off, rfl, hc⟩ : ∃ b off, a = some ⟨b, off, none⟩ ∧ IntsAt w1 b off xs := by
    rcases hat with h0 | h0
    · subst h0; simp at hlen
    · exact h0
  have HC := hid hc
  have HR := hid hr
  clear hsm ou hat hc h hn hb hr
  go_wp2_with fail
  refine (sumsOf_any _ HU.out).mono ?_
  rw [show sumsL xs = sums xs xs.length from by rw [sumsL, if_pos HR.out]]
  rintro e w2 ⟨s, rfl, os, g2⟩
  have HU2 := hid (HU.out.on g2)
  have hc2 := HC.out.kept g2 (by simp)
  obtain ⟨_, a', cap', rfl, hcap', hmax', hat'⟩ := os.ints
  rw [sums_length] at hcap' ⊢
  unfold maxLen at hmax'
  obtain ⟨b', off', rfl, hs⟩ : ∃ b off, a' = some ⟨b, off, none⟩ ∧ IntsAt w2 b off (sums xs xs.length) := by
    rcases hat' with h0 | h0
    · have := congrArg List.length h0
      rw [sums_length] at this
      simp only [List.length_nil] at this
      omega
    · exact h0
  have HC2 := hid hc2
  have HS2 := hid hs
  have g12 := gr_then g1 g2
  clear hat' hs hc2 os HU HC g1 g2
  have hlast := HS2.out (xs.length - 1) (by rw [sums_length]; omega)
  rw [gi_sums (by omega), show xs.length - 1 + 1 = xs.length from by omega] at hlast
  have hT := fair_sum HF.out (Nat.le_refl xs.length)
  have t0 : decide (sumTo xs xs.length < 0) = false := by simp; omega
  go_wp2_with fail
  refine (totalRain_any _ HU2.out).mono ?_
  rw [show totalV xs = sumTo xs xs.length from by rw [totalV, if_pos HR.out]]
  rintro e w' ⟨rfl, rfl⟩
  have q1 : ((xs.length : Int) - 1).toNat = xs.length - 1 := by omega
  go_wp2_with fail
  refine (wettestDay_any _ HU2.out).mono ?_
  rw [show wettestV xs = (bestTo xs xs.length : Nat) from by rw [wettestV, if_pos HR.out]]
  rintro e w' ⟨rfl, rfl⟩
  have hbl := best_lt (xs := xs) xs.length (by omega)
  have HM : Hid (∀ i, i < xs.length → gi xs i ≤ gi xs (bestTo xs xs.length)) := fun i hi => best_max _ _ hi
  have hD := (HC2.out (bestTo xs xs.length) hbl)
  have hDb := HG.out _ hbl
  have t1 : decide (((bestTo xs xs.length : Nat) : Int) < 0) = false := by simp
  have t2 : decide (xs.length ≤ bestTo xs xs.length) = false := by simp; omega
  generalize hB : bestTo xs xs.length = D at *
  have HB := hid hB
  clear hB hlast q1
  go_wp2_with fail
  go_loopw [8, 9, 10] (fun m r i wr => ∃ k : Nat, k ≤ xs.length ∧ i = .int .i64 k ∧ m = .int .i64 (dryTo xs k : Nat) ∧ r = .int .i64 (runTo xs k : Nat) ∧ Gr w2 wr none) (fun _ _ i _ => xs.length - (intOf i).toNat)
  case atStart => exact ⟨0, Nat.zero_le _, rfl, rfl, rfl, gr_refl _ _⟩
  case round =>
    obtain ⟨k, hk, rfl, rfl, rfl, hg⟩ := hrel
    have r1 := runTo_le xs k
    have r2 := dryTo_le xs k
    have hD' := (gr_cell hg _ _ (World.block_lt_of_cell? w2 _ hD)).trans hD
    by_cases hlt : k < xs.length
    · have hX := HG.out k hlt
      have hXM := HM.out k hlt
      have ck := HC2.out.kept hg (by simp) k hlt
      have sk := HS2.out.kept hg (by simp) k (by rw [sums_length]; omega)
      have sT := fair_sum HF.out hk
      have sT' := fair_sum HF.out (k := k + 1) (by omega)
      rw [gi_sums hlt] at sk
      rw [show sumTo xs (k + 1) = sumTo xs k + gi xs k from rfl] at sk sT'
      have i1 : (k : Int) < (xs.length : Int) := by omega
      have i2 : (0 : Int) ≤ (k : Int) := by omega
      have i3 : (D : Int) < (xs.length : Int) := by omega
      have i4 : (0 : Int) ≤ (D : Int) := by omega
      by_cases h0 : k = 0
      · have hk0 : decide ((0 : Int) < (k : Int)) = false := by simp [h0]
        have hk0' : decide (0 < k) = false := by simp [h0]
        generalize hXe : gi xs k = X at *
        have HX := hid hXe
        generalize gi xs D = M at *
        clear hXe h0 sk
        go_wp2_with fail
        go_quiet (fail)
        by_cases hx0 : X = 0
        · have hxb : (X == 0) = true := by simp [hx0]
          have e1 : runTo xs (k + 1) = runTo xs k + 1 := by rw [show runTo xs (k + 1) = if 0 < gi xs k then 0 else runTo xs k + 1 from rfl, HX.out, if_neg (by omega)]
          have E1 := hid e1
          have E2 := hid (dry_max (xs := xs) k)
          clear e1 hx0
          go_wp2_with fail
          refine (btoi_true _).mono ?_
          rintro e w' ⟨rfl, rfl⟩
          go_wp2
          go_roundw
          case rel => exact ⟨k + 1, by omega, by go_num, congrArg (Value.int .i64) (by rw [E2.out, E1.out] <;> rfl), by rw [E1.out]; go_num, gr_drewN hg _⟩
          case measure => simp [intOf]; omega
        · have hxb : (X == 0) = false := by simp [hx0]
          have e1 : runTo xs (k + 1) = 0 := by rw [show runTo xs (k + 1) = if 0 < gi xs k then 0 else runTo xs k + 1 from rfl, HX.out, if_pos (by omega)]
          have E1 := hid e1
          have E2 := hid (dry_max (xs := xs) k)
          clear e1 hx0
          go_wp2_with fail
          refine (btoi_false _).mono ?_
          rintro e w' ⟨rfl, rfl⟩
          go_wp2
          go_roundw
          case rel => exact ⟨k + 1, by omega, by go_num, congrArg (Value.int .i64) (by rw [E2.out, E1.out, if_neg (by omega)]), by rw [E1.out]; rfl, gr_drewN hg _⟩
          case measure => simp [intOf]; omega
      · have hk0 : (0 : Int) < (k : Int) := by omega
        have hk0' : 0 < k := by omega
        have sk1 := HS2.out.kept hg (by simp) (k - 1) (by rw [sums_length]; omega)
        rw [gi_sums (by omega), show k - 1 + 1 = k from by omega] at sk1
        generalize hXe : gi xs k = X at *
        have HX := hid hXe
        generalize gi xs D = M at *
        generalize sumTo xs k = A at *
        clear hXe h0
        go_wp2_with fail
        have q1 : IntKind.i64.wrap ((k : Int) - 1) = (k : Int) - 1 := IntWalk.i64_in _ (by omega)
        have q2 : ((k : Int) - 1).toNat = k - 1 := by omega
        have q3 : (0 : Int) ≤ (k : Int) - 1 := by omega
        have q4 : (k : Int) - 1 < (xs.length : Int) := by omega
        have q5 : IntKind.i64.wrap (A + X - A) = X := by rw [show A + X - A = X from by omega]; exact IntWalk.i64_in _ (by omega)
        go_quiet (fail)
        clear q1 q2 q3 q4 q5 sk1 sk
        by_cases hx0 : X = 0
        · have hxb : (X == 0) = true := by simp [hx0]
          have e1 : runTo xs (k + 1) = runTo xs k + 1 := by rw [show runTo xs (k + 1) = if 0 < gi xs k then 0 else runTo xs k + 1 from rfl, HX.out, if_neg (by omega)]
          have E1 := hid e1
          have E2 := hid (dry_max (xs := xs) k)
          clear e1 hx0
          go_wp2_with fail
          refine (btoi_true _).mono ?_
          rintro e w' ⟨rfl, rfl⟩
          go_wp2
          go_roundw
          case rel => exact ⟨k + 1, by omega, by go_num, congrArg (Value.int .i64) (by rw [E2.out, E1.out] <;> rfl), by rw [E1.out]; go_num, gr_drewN hg _⟩
          case measure => simp [intOf]; omega
        · have hxb : (X == 0) = false := by simp [hx0]
          have e1 : runTo xs (k + 1) = 0 := by rw [show runTo xs (k + 1) = if 0 < gi xs k then 0 else runTo xs k + 1 from rfl, HX.out, if_pos (by omega)]
          have E1 := hid e1
          have E2 := hid (dry_max (xs := xs) k)
          clear e1 hx0
          go_wp2_with fail
          refine (btoi_false _).mono ?_
          rintro e w' ⟨rfl, rfl⟩
          go_wp2
          go_roundw
          case rel => exact ⟨k + 1, by omega, by go_num, congrArg (Value.int .i64) (by rw [E2.out, E1.out, if_neg (by omega)]), by rw [E1.out]; rfl, gr_drewN hg _⟩
          case measure => simp [intOf]; omega
    · have hkl : k = xs.length := by omega
      subst hkl
      have g2r := gr_then g12 hg
      have HUr := hid (HU2.out.on hg)
      have HCr := hid (HC2.out.kept hg (by simp))
      have hDr := hD'
      clear hD hD' hg g12 HU2 HC2 HS2 r1 hk
      go_wp2_with fail
      refine (wettestWeek_any _ HUr.out).mono ?_
      by_cases h7 : xs.length < 7
      · skip
        have e7 : weekD xs = xs.length := by unfold weekD; omega
        obtain ⟨p, p1, p2, p3⟩ := place_spec HF.out (d := xs.length) (xs.length - xs.length + 1) (by omega) (by omega)
        rw [show weekV xs = ((p : Int), part xs xs.length p) from by rw [weekV, if_pos HR.out, e7, p1, p3]]
        rintro e w' ⟨rfl, rfl⟩
        have hx7 : ((xs.length:Int)<7) := by omega
        have hp : p + xs.length ≤ xs.length := by omega
        have w1' : wetV xs xs.length (part xs xs.length p) = true := wet_yes HR.out (by omega) hp (Int.le_refl _)
        have w2' : wetV xs xs.length (part xs xs.length p + 1) = false := by
          show wetV xs ((xs.length : Nat) : Int) (part xs xs.length p + 1) = false
          rw [wetV_of HR.out (by omega) (by omega), ← p3]; simp; omega
        have wb := part_bd HF.out (d := xs.length) (k := p) hp
        have HPS : Hid (∀ j, j ≤ xs.length → 0 ≤ sumTo xs (p + j) - sumTo xs p ∧ sumTo xs (p + j) - sumTo xs p ≤ 1000000000000000) := fun j hj => by
          have := sumTo_mono HF.out (i := p) j (by omega)
          have := fair_sum HF.out (k := p + j) (by omega)
          have := fair_sum HF.out (k := p) (by omega)
          omega
        have HPE : Hid (sumTo xs (p + xs.length) - sumTo xs p = part xs xs.length p) := hid rfl
        generalize hW : part xs xs.length p = W at *
        have HW1 := hid w1'
        have HW2 := hid w2'
        have i1 : decide ((p : Int) < 0) = false := by simp
        clear p1 p3 e7 w1' w2' hW p2
        go_wp2_with fail
        go_loop [14, 15] (fun s i => ∃ j : Nat, j ≤ xs.length ∧ i = .int .i64 ((p + j : Nat) : Int) ∧ s = .int .i64 (sumTo xs (p + j) - sumTo xs p)) (fun _ i => p + xs.length - (intOf i).toNat)
        case atStart => exact ⟨0, by omega, by simp, by simp⟩
        case round =>
          obtain ⟨j, hj, rfl, rfl⟩ := hrel
          by_cases hlt : j < xs.length
          · have ck := HCr.out (p + j) (by omega)
            have hs := HPS.out j hj
            have hx := HG.out (p + j) (by omega)
            have i2 : (p : Int) + (j : Int) < (p : Int) + (xs.length:Int) := by omega
            have i2' : ((p + j : Nat) : Int) < (p : Int) + (xs.length:Int) := by omega
            have E : Hid (sumTo xs (p + (j + 1)) - sumTo xs p = sumTo xs (p + j) - sumTo xs p + gi xs (p + j)) := by
              show sumTo xs (p + j + 1) - sumTo xs p = _
              simp only [sumTo]; omega
            generalize hS : sumTo xs (p + j) - sumTo xs p = S at *
            have HS := hid hS
            clear hS
            go_wp2
            go_round
            case rel => exact ⟨j + 1, by omega, by go_num, by rw [E.out]⟩
            case measure => simp [intOf]; omega
          · obtain rfl : j = xs.length := by omega
            have i2 : ¬ ((p : Int) + (xs.length:Int) < (p : Int) + (xs.length:Int)) := by omega
            rw [HPE.out]
            have w3 : wetV xs xs.length (sumTo xs xs.length) = true := wet_yes HR.out (d := xs.length) (i := 0) (by omega) (by omega) (by rw [part_all]; exact Int.le_refl _)
            have w4 : wetV xs 1 (gi xs D) = true := wet_yes HR.out (d := 1) (i := D) (by omega) (by omega) (by rw [part_one]; exact Int.le_refl _)
            have HW3 := hid w3
            have HW4 := hid w4
            have HLD : Hid (longestV xs = (dryTo xs xs.length : Nat)) := by rw [longestV, if_pos HR.out]; exact hid rfl
            clear w3 w4
            go_wp2_with fail
            refine (longestDry_any _ HUr.out).mono ?_
            rw [HLD.out]
            rintro e w' ⟨rfl, rfl⟩
            go_wp2_with fail
            refine (hasWetPart_any _ _ _ HUr.out).mono ?_
            rw [HW1.out]
            rintro e w' ⟨rfl, rfl⟩
            go_wp2_with fail
            refine (hasWetPart_any _ _ _ HUr.out).mono ?_
            rw [HW2.out]
            rintro e w' ⟨rfl, rfl⟩
            go_wp2_with fail
            refine (hasWetPart_any _ _ _ HUr.out).mono ?_
            rw [HW3.out]
            rintro e w' ⟨rfl, rfl⟩
            go_wp2_with fail
            refine (rainOk_any _ HUr.out).mono ?_
            rw [HR.out]
            rintro e w' ⟨rfl, rfl⟩
            go_wp2_with fail
            refine (hasWetPart_any _ _ _ HUr.out).mono ?_
            rw [HW4.out]
            rintro e w' ⟨rfl, rfl⟩
            go_wp2
            go_ret
            exact ⟨rfl, g2r⟩
      · skip
        have e7 : weekD xs = 7 := by unfold weekD; omega
        obtain ⟨p, p1, p2, p3⟩ := place_spec HF.out (d := 7) (xs.length - 7 + 1) (by omega) (by omega)
        rw [show weekV xs = ((p : Int), part xs 7 p) from by rw [weekV, if_pos HR.out, e7, p1, p3]]
        rintro e w' ⟨rfl, rfl⟩
        have hx7 : (7≤(xs.length:Int)) := by omega
        have hp : p + 7 ≤ xs.length := by omega
        have w1' : wetV xs 7 (part xs 7 p) = true := wet_yes HR.out (by omega) hp (Int.le_refl _)
        have w2' : wetV xs 7 (part xs 7 p + 1) = false := by
          show wetV xs ((7 : Nat) : Int) (part xs 7 p + 1) = false
          rw [wetV_of HR.out (by omega) (by omega), ← p3]; simp; omega
        have wb := part_bd HF.out (d := 7) (k := p) hp
        have HPS : Hid (∀ j, j ≤ 7 → 0 ≤ sumTo xs (p + j) - sumTo xs p ∧ sumTo xs (p + j) - sumTo xs p ≤ 1000000000000000) := fun j hj => by
          have := sumTo_mono HF.out (i := p) j (by omega)
          have := fair_sum HF.out (k := p + j) (by omega)
          have := fair_sum HF.out (k := p) (by omega)
          omega
        have HPE : Hid (sumTo xs (p + 7) - sumTo xs p = part xs 7 p) := hid rfl
        generalize hW : part xs 7 p = W at *
        have HW1 := hid w1'
        have HW2 := hid w2'
        have i1 : decide ((p : Int) < 0) = false := by simp
        clear p1 p3 e7 w1' w2' hW p2
        go_wp2_with fail
        go_loop [14, 15] (fun s i => ∃ j : Nat, j ≤ 7 ∧ i = .int .i64 ((p + j : Nat) : Int) ∧ s = .int .i64 (sumTo xs (p + j) - sumTo xs p)) (fun _ i => p + 7 - (intOf i).toNat)
        case atStart => exact ⟨0, by omega, by simp, by simp⟩
        case round =>
          obtain ⟨j, hj, rfl, rfl⟩ := hrel
          by_cases hlt : j < 7
          · have ck := HCr.out (p + j) (by omega)
            have hs := HPS.out j hj
            have hx := HG.out (p + j) (by omega)
            have i2 : (p : Int) + (j : Int) < (p : Int) + (7:Int) := by omega
            have i2' : ((p + j : Nat) : Int) < (p : Int) + (7:Int) := by omega
            have E : Hid (sumTo xs (p + (j + 1)) - sumTo xs p = sumTo xs (p + j) - sumTo xs p + gi xs (p + j)) := by
              show sumTo xs (p + j + 1) - sumTo xs p = _
              simp only [sumTo]; omega
            generalize hS : sumTo xs (p + j) - sumTo xs p = S at *
            have HS := hid hS
            clear hS
            go_wp2
            go_round
            case rel => exact ⟨j + 1, by omega, by go_num, by rw [E.out]⟩
            case measure => simp [intOf]; omega
          · obtain rfl : j = 7 := by omega
            have i2 : ¬ ((p : Int) + (7:Int) < (p : Int) + (7:Int)) := by omega
            rw [HPE.out]
            have w3 : wetV xs xs.length (sumTo xs xs.length) = true := wet_yes HR.out (d := xs.length) (i := 0) (by omega) (by omega) (by rw [part_all]; exact Int.le_refl _)
            have w4 : wetV xs 1 (gi xs D) = true := wet_yes HR.out (d := 1) (i := D) (by omega) (by omega) (by rw [part_one]; exact Int.le_refl _)
            have HW3 := hid w3
            have HW4 := hid w4
            have HLD : Hid (longestV xs = (dryTo xs xs.length : Nat)) := by rw [longestV, if_pos HR.out]; exact hid rfl
            clear w3 w4
            go_wp2_with fail
            refine (longestDry_any _ HUr.out).mono ?_
            rw [HLD.out]
            rintro e w' ⟨rfl, rfl⟩
            go_wp2_with fail
            refine (hasWetPart_any _ _ _ HUr.out).mono ?_
            rw [HW1.out]
            rintro e w' ⟨rfl, rfl⟩
            go_wp2_with fail
            refine (hasWetPart_any _ _ _ HUr.out).mono ?_
            rw [HW2.out]
            rintro e w' ⟨rfl, rfl⟩
            go_wp2_with fail
            refine (hasWetPart_any _ _ _ HUr.out).mono ?_
            rw [HW3.out]
            rintro e w' ⟨rfl, rfl⟩
            go_wp2_with fail
            refine (rainOk_any _ HUr.out).mono ?_
            rw [HR.out]
            rintro e w' ⟨rfl, rfl⟩
            go_wp2_with fail
            refine (hasWetPart_any _ _ _ HUr.out).mono ?_
            rw [HW4.out]
            rintro e w' ⟨rfl, rfl⟩
            go_wp2
            go_ret
            exact ⟨rfl, g2r⟩
end Go.Proofs.Ythbambpecoffaaa
