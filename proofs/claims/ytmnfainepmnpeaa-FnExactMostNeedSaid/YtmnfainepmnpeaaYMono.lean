/- When a year is enough: more room or start never hurts, more need never helps. No program is in sight. -/
import Derived.Test.YtmnfainepmnpeaaYAvg
namespace Go.Proofs.Ytmnfainepmnpeaa
open Go.RowKit

theorem whereTo_nil (p : Nat → Bool) : ∀ k, (whereTo p k).length = 0 ↔ ∀ i, i < k → p i = false := by
  intro k
  induction k with
  | zero => simp [whereTo]
  | succ k ih =>
    have e : whereTo p (k + 1) = if p k = true then whereTo p k ++ [(k : Int)] else whereTo p k := rfl
    rw [e]
    by_cases h : p k = true
    · rw [if_pos h, List.length_append]
      constructor
      · intro h'; simp at h'
      · intro h'; have := h' k (by omega); rw [h] at this; cases this
    · rw [if_neg h, ih]
      constructor
      · intro h' i hi
        by_cases e' : i = k
        · subst e'; simpa using h
        · exact h' i (by omega)
      · intro h' i hi; exact h' i (by omega)
theorem enough_iff {r s n : Int} {xs : List Int} (h : yearB r s xs n = true) : enoughB r s n xs = true ↔ ∀ k, k < xs.length → n ≤ min r (levAt r s n xs k + gi xs k) := by
  have e : enoughB r s n xs = decide ((shortV r s n xs).length = 0) := by simp [enoughB, h]
  rw [e, decide_eq_true_eq, show shortV r s n xs = shortTo r s n xs xs.length from by simp [shortV, h], shortTo, whereTo_nil]
  constructor
  · intro h' k hk
    have h1 := h' k hk
    have h2 := ((day_law h k (by omega)).2 hk).2.1
    simp only [decide_eq_false_iff_not] at h1
    omega
  · intro h' k hk
    have h1 := h' k hk
    have h2 := ((day_law h k (by omega)).2 hk).2.1
    simp only [decide_eq_false_iff_not]
    omega
/-- The level one day on. -/
theorem lev_next {r s n : Int} {xs : List Int} (h : yearB r s xs n = true) {k : Nat} (hk : k < xs.length) : levAt r s n xs (k + 1) = max 0 (min r (levAt r s n xs k + gi xs k) - n) := by
  obtain ⟨h0, h1⟩ := day_law h k (by omega)
  obtain ⟨e1, e2, -⟩ := h1 hk
  have hx := (yearB_parts h).2.2.2.1 k hk
  have hr := (yearB_parts h).1
  rw [e1, e2]; omega
theorem lev_mono {r s r' s' n : Int} {xs : List Int} (h : yearB r s xs n = true) (h' : yearB r' s' xs n = true) (hr : r ≤ r') (hs : s ≤ s') : ∀ k, k ≤ xs.length → levAt r s n xs k ≤ levAt r' s' n xs k := by
  intro k
  induction k with
  | zero => intro _; exact hs
  | succ k ih =>
    intro hk
    have := ih (by omega)
    rw [lev_next h (by omega), lev_next h' (by omega)]; omega
theorem lev_anti {r s n n' : Int} {xs : List Int} (h : yearB r s xs n = true) (h' : yearB r s xs n' = true) (hn : n ≤ n') : ∀ k, k ≤ xs.length → levAt r s n' xs k ≤ levAt r s n xs k := by
  intro k
  induction k with
  | zero => intro _; exact Int.le_refl _
  | succ k ih =>
    intro hk
    have := ih (by omega)
    rw [lev_next h (by omega), lev_next h' (by omega)]; omega
theorem enough_mono {r s r' s' n : Int} {xs : List Int} (h : yearB r s xs n = true) (h' : yearB r' s' xs n = true) (hr : r ≤ r') (hs : s ≤ s') (he : enoughB r s n xs = true) : enoughB r' s' n xs = true := by
  rw [enough_iff h] at he
  rw [enough_iff h']
  intro k hk
  have h1 := he k hk
  have h2 := lev_mono h h' hr hs k (by omega)
  omega
theorem enough_anti {r s n n' : Int} {xs : List Int} (h : yearB r s xs n = true) (h' : yearB r s xs n' = true) (hn : n ≤ n') (he : enoughB r s n' xs = true) : enoughB r s n xs = true := by
  rw [enough_iff h'] at he
  rw [enough_iff h]
  intro k hk
  have h1 := he k hk
  have h2 := lev_anti h h' hn k (by omega)
  omega
theorem enough_zero {r s n : Int} {xs : List Int} (h : yearB r s xs n = true) : enoughB r s 0 xs = true := by
  obtain ⟨h1, h2, h3, h4, h5⟩ := yearB_parts h
  have h0 : yearB r s xs 0 = true := yearB_mk h1 h2 h3 h4 (by omega)
  rw [enough_iff h0]
  intro k hk
  have := (day_law h0 k (by omega)).1
  have := h4 k hk
  omega
/-! ### The least number of a range that has a rising property -/
/-- x is the least number from lo to hi that has P; hi + 1 if there is none. -/
def Least (P : Int → Bool) (lo hi x : Int) : Prop := lo ≤ x ∧ x ≤ hi + 1 ∧ (∀ m, lo ≤ m → m < x → P m = false) ∧ (x ≤ hi → P x = true)
theorem least_uniq {P : Int → Bool} {lo hi x y : Int} (hx : Least P lo hi x) (hy : Least P lo hi y) : x = y := by
  obtain ⟨a1, a2, a3, a4⟩ := hx
  obtain ⟨b1, b2, b3, b4⟩ := hy
  rcases Int.lt_trichotomy x y with h | h | h
  · have h1 := b3 x a1 h
    have h2 := a4 (by omega)
    rw [h1] at h2; cases h2
  · exact h
  · have h1 := a3 y b1 h
    have h2 := b4 (by omega)
    rw [h1] at h2; cases h2
def firstP (P : Int → Bool) (lo : Int) : Nat → Int
  | 0 => lo
  | k + 1 => if P lo then lo else firstP P (lo + 1) k
def leastV (P : Int → Bool) (lo hi : Int) : Int := firstP P lo (hi + 1 - lo).toNat
theorem first_least (P : Int → Bool) : ∀ (k : Nat) (lo hi : Int), hi + 1 = lo + k → Least P lo hi (firstP P lo k) := by
  intro k
  induction k with
  | zero => intro lo hi h; exact ⟨Int.le_refl _, by simp only [firstP]; omega, fun m h1 h2 => by simp only [firstP] at h2; omega, fun h1 => by simp only [firstP] at h1; omega⟩
  | succ k ih =>
    intro lo hi h
    unfold firstP
    by_cases hp : P lo = true
    · rw [if_pos hp]
      exact ⟨Int.le_refl _, by omega, fun m h1 h2 => by omega, fun _ => hp⟩
    · rw [if_neg hp]
      obtain ⟨h1, h2, h3, h4⟩ := ih (lo + 1) hi (by omega)
      refine ⟨by omega, h2, fun m h5 h6 => ?_, h4⟩
      by_cases e : m = lo
      · subst e; simpa using hp
      · exact h3 m (by omega) h6
theorem leastV_spec (P : Int → Bool) {lo hi : Int} (h : lo ≤ hi + 1) : Least P lo hi (leastV P lo hi) := first_least P _ lo hi (by omega)
theorem least_is {P : Int → Bool} {lo hi x : Int} (h : lo ≤ hi + 1) (hx : Least P lo hi x) : x = leastV P lo hi := least_uniq hx (leastV_spec P h)
/-- A search's state: nothing below l has P, h has P (or lies behind the range). -/
def Search (P : Int → Bool) (lo hi l h : Int) : Prop := lo ≤ l ∧ l ≤ h ∧ h ≤ hi + 1 ∧ (∀ m, lo ≤ m → m < l → P m = false) ∧ (h ≤ hi → P h = true)
theorem search_end {P : Int → Bool} {lo hi l h : Int} (hs : Search P lo hi l h) (he : ¬ l < h) : Least P lo hi l := by
  obtain ⟨h1, h2, h3, h4, h5⟩ := hs
  obtain rfl : l = h := by omega
  exact ⟨h1, h3, h4, h5⟩
theorem search_yes {P : Int → Bool} {lo hi l h m : Int} (hs : Search P lo hi l h) (h1 : l ≤ m) (h2 : m < h) (hp : P m = true) : Search P lo hi l m := by
  obtain ⟨a1, a2, a3, a4, a5⟩ := hs
  exact ⟨a1, h1, by omega, a4, fun _ => hp⟩
theorem search_no {P : Int → Bool} {lo hi l h m : Int} (hm : ∀ a b, lo ≤ a → a ≤ b → b ≤ hi → P a = true → P b = true) (hs : Search P lo hi l h) (h1 : l ≤ m) (h2 : m < h) (hp : P m = false) : Search P lo hi (m + 1) h := by
  obtain ⟨a1, a2, a3, a4, a5⟩ := hs
  refine ⟨by omega, by omega, a3, fun q h3 h4 => ?_, a5⟩
  cases hq : P q
  · rfl
  · rw [hm q m h3 (by omega) (by omega) hq] at hp; cases hp
end Go.Proofs.Ytmnfainepmnpeaa
