/- What the sizes of a year keep. No program is in sight. -/
import Derived.Test.YtmnfainepmnpeaaYearsP
import Derived.Test.YtmnfainepmnpeaaYSize
namespace Go.Proofs.Ytmnfainepmnpeaa
open Go.RowKit

theorem need_spec {r s n : Int} {xs : List Int} (h : yearB r s xs n = true) : 0 ≤ needV r s n xs ∧ needV r s n xs ≤ 1000000 ∧ enoughB r s (needV r s n xs) xs = true ∧ enoughB r s (needV r s n xs + 1) xs = false ∧ enoughB r s n xs = decide (n ≤ needV r s n xs) := by
  obtain ⟨x, hx⟩ : ∃ x, x = leastV (needP r s xs) 0 1000000 := ⟨_, rfl⟩
  have e : needV r s n xs = x - 1 := by rw [hx]; simp [needV, h]
  obtain ⟨a1, a2, a3, a4⟩ := hx ▸ leastV_spec (needP r s xs) (show (0 : Int) ≤ 1000000 + 1 by omega)
  have h0 : needP r s xs 0 = false := by rw [needP, enough_zero h]; rfl
  have hx1 : 1 ≤ x := by
    rcases Int.lt_or_le x 1 with h1 | h1
    · obtain rfl : x = 0 := by omega
      have := a4 (by omega)
      rw [h0] at this; cases this
    · exact h1
  obtain ⟨-, -, -, -, hn⟩ := yearB_parts h
  rw [e]
  refine ⟨by omega, by omega, ?_, ?_, ?_⟩
  · have := a3 (x - 1) (by omega) (by omega)
    simpa [needP] using this
  · rw [show x - 1 + 1 = x from by omega]
    by_cases hh : x ≤ 1000000
    · have := a4 hh
      simpa [needP] using this
    · cases hb : enoughB r s x xs
      · rfl
      · have : yearB r s xs x = true := by
          simp only [enoughB, Bool.and_eq_true] at hb; exact hb.1
        have := (yearB_parts this).2.2.2.2
        omega
  · by_cases hh : n ≤ x - 1
    · have := a3 n (by omega) (by omega)
      rw [decide_eq_true hh]
      simpa [needP] using this
    · rw [decide_eq_false hh]
      have := needP_mono h x n (by omega) (by omega) (by omega) (a4 (by omega))
      simpa [needP] using this
theorem need_sum {r s n : Int} {xs : List Int} (h : yearB r s xs n = true) : needV r s n xs * xs.length ≤ sumTo xs xs.length + s := by
  obtain ⟨h1, h2, h3, -⟩ := need_spec h
  generalize needV r s n xs = m at *
  have hm := need_year h h1 h2
  have h4 := year_kept hm xs.length (Nat.le_refl _)
  have h5 : (shortTo r s m xs xs.length).length = 0 := by
    have e : enoughB r s m xs = decide ((shortV r s m xs).length = 0) := by simp [enoughB, hm]
    rw [e, decide_eq_true_eq, show shortV r s m xs = shortTo r s m xs xs.length from by simp [shortV, hm]] at h3
    exact h3
  have h6 := (drawn_full hm xs.length (Nat.le_refl _)).2.2 h5
  have h7 := (day_law hm xs.length (Nat.le_refl _)).1
  have h8 := (sumF_bd (f := lostAt r s m xs) (M := 1000000) (N := xs.length) (fun i hi => (day_bd hm hi).2.2.1) _ (Nat.le_refl _)).1
  omega
theorem room_spec {r s n : Int} {xs : List Int} (h : yearB r s xs n = true) (hr : r ≤ 100000) : (roomV' r s n xs = -1 ∨ 1 ≤ roomV' r s n xs ∧ roomV' r s n xs ≤ 100000 ∧ roomP r s n xs (roomV' r s n xs) = true ∧ (1 < roomV' r s n xs → roomP r s n xs (roomV' r s n xs - 1) = false)) ∧ (enoughB r s n xs = true → 1 ≤ roomV' r s n xs ∧ roomV' r s n xs ≤ r) := by
  obtain ⟨x, hx⟩ : ∃ x, x = leastV (roomP r s n xs) 1 100000 := ⟨_, rfl⟩
  obtain ⟨a1, a2, a3, a4⟩ := hx ▸ leastV_spec (roomP r s n xs) (show (1 : Int) ≤ 100000 + 1 by omega)
  have e : roomV' r s n xs = if 100000 < x then -1 else x := by rw [hx]; simp [roomV', h, upTo]
  have hr1 := (yearB_parts h).1
  have hs := (yearB_parts h).2.1
  rw [e]
  constructor
  · split
    · exact .inl rfl
    · exact .inr ⟨a1, by omega, a4 (by omega), fun h1 => a3 _ (by omega) (by omega)⟩
  · intro he
    have hP : roomP r s n xs r = true := by
      rw [(roomP_eq h hr1.1 hr1.2).1, show min s r = s from by omega]; exact he
    have hxr : x ≤ r := by
      rcases Int.lt_or_le r x with h1 | h1
      · rw [a3 r hr1.1 h1] at hP; cases hP
      · exact h1
    rw [if_neg (by omega)]
    exact ⟨a1, hxr⟩
theorem start_spec {r s n : Int} {xs : List Int} (h : yearB r s xs n = true) : (startV r s n xs = -1 ∨ 0 ≤ startV r s n xs ∧ startV r s n xs ≤ r ∧ enoughB r (startV r s n xs) n xs = true ∧ (0 < startV r s n xs → enoughB r (startV r s n xs - 1) n xs = false)) ∧ (enoughB r s n xs = true → 0 ≤ startV r s n xs ∧ startV r s n xs ≤ s) := by
  obtain ⟨x, hx⟩ : ∃ x, x = leastV (startP r n xs) 0 r := ⟨_, rfl⟩
  have hr1 := (yearB_parts h).1
  have hs := (yearB_parts h).2.1
  obtain ⟨a1, a2, a3, a4⟩ := hx ▸ leastV_spec (startP r n xs) (show (0 : Int) ≤ r + 1 by omega)
  have e : startV r s n xs = if r < x then -1 else x := by rw [hx]; simp [startV, h, upTo]
  rw [e]
  constructor
  · split
    · exact .inl rfl
    · exact .inr ⟨a1, by omega, a4 (by omega), fun h1 => a3 _ (by omega) (by omega)⟩
  · intro he
    have hxs : x ≤ s := by
      rcases Int.lt_or_le s x with h1 | h1
      · have := a3 s hs.1 h1
        rw [startP, he] at this; cases this
      · exact h1
    rw [if_neg (by omega)]
    exact ⟨a1, hxs⟩
theorem avg_spec {r s n : Int} {xs : List Int} (h : yearB r s xs n = true) : avgV r s n xs * xs.length ≤ sumTo xs xs.length ∧ sumTo xs xs.length < (avgV r s n xs + 1) * xs.length := by
  have hl := (yearB_parts h).2.2.1
  have e : avgV r s n xs = sumTo xs xs.length / xs.length := by simp [avgV, h]
  rw [e]
  have hp : (0 : Int) < xs.length := by omega
  exact ⟨Int.ediv_mul_le _ (by omega), Int.lt_ediv_add_one_mul_self _ hp⟩
end Go.Proofs.Ytmnfainepmnpeaa
