/- Circles of a list of places: what both walks compute, with no program in sight. -/
import Derived.Test.YtbbacodhklanjaaCommon
namespace Go.Proofs.Ytbbacodhklanjaa
open Go.RowKit

/-- One step on: -1 where the place is none. -/
def nx (xs : List Int) (a : Int) : Int := if 0 ≤ a ∧ a < xs.length then gi xs a.toNat else -1
/-- Where one is behind t steps from k. -/
def wayAt (xs : List Int) (k : Nat) : Nat → Int
  | 0 => k
  | t + 1 => nx xs (wayAt xs k t)
/-- One is back at k behind some of the steps 1 .. t. -/
def backTo (xs : List Int) (k : Nat) : Nat → Bool
  | 0 => false
  | t + 1 => backTo xs k t || decide (wayAt xs k (t + 1) = k)
def circTo (xs : List Int) : Nat → List Int
  | 0 => []
  | k + 1 => if backTo xs k xs.length then circTo xs k ++ [(k : Int)] else circTo xs k
def circL (xs : List Int) : List Int := if xs.length ≤ 20 then circTo xs xs.length else []
theorem circTo_length (xs : List Int) (k : Nat) : (circTo xs k).length ≤ k := by
  induction k with
  | zero => simp [circTo]
  | succ k ih =>
    unfold circTo
    split
    · rw [List.length_append]; exact Nat.add_le_add ih (Nat.le_refl 1)
    · omega
theorem circTo_mem (xs : List Int) (k : Nat) : ∀ x ∈ circTo xs k, 0 ≤ x ∧ x < k := by
  induction k with
  | zero => simp [circTo]
  | succ k ih =>
    unfold circTo
    split
    · intro x hx
      rcases List.mem_append.1 hx with h | h
      · have := ih x h; omega
      · simp at h; omega
    · intro x hx; have := ih x hx; omega
theorem wayAt_out {xs : List Int} {k t : Nat} (h : ¬ (0 ≤ wayAt xs k t ∧ wayAt xs k t < xs.length)) : ∀ j, t < j → wayAt xs k j = -1 := by
  intro j
  induction j with
  | zero => intro h'; omega
  | succ j ih =>
    intro h'
    show nx xs (wayAt xs k j) = -1
    by_cases e : t = j
    · subst e; exact if_neg h
    · rw [ih (by omega)]; exact if_neg (by omega)
theorem backTo_true {xs : List Int} {k t : Nat} (h0 : 1 ≤ t) (h : wayAt xs k t = k) : ∀ n, t ≤ n → backTo xs k n = true := by
  intro n
  induction n with
  | zero => intro h'; omega
  | succ n ih =>
    intro h'
    by_cases e : t = n + 1
    · subst e; simp [backTo, h]
    · simp [backTo, ih (by omega)]
theorem backTo_false {xs : List Int} {k : Nat} : ∀ n, (∀ t, 1 ≤ t → t ≤ n → wayAt xs k t ≠ k) → backTo xs k n = false := by
  intro n
  induction n with
  | zero => intro _; rfl
  | succ n ih => intro h; simp [backTo, ih (fun t h1 h2 => h t h1 (by omega)), h (n + 1) (by omega) (by omega)]
theorem backTo_no {xs : List Int} {k n : Nat} (h : backTo xs k n = false) : ∀ t, 1 ≤ t → t ≤ n → wayAt xs k t ≠ k := by
  intro t h1 h2 e
  rw [backTo_true h1 e n h2] at h
  cases h
/-- Out of the places, none of the later steps leads back. -/
theorem backTo_out {xs : List Int} {k t : Nat} (hk : k < xs.length) (h : backTo xs k t = false) (ho : ¬ (0 ≤ wayAt xs k t ∧ wayAt xs k t < xs.length)) (n : Nat) : backTo xs k n = false := by
  refine backTo_false n fun j h1 h2 e => ?_
  by_cases hj : j ≤ t
  · exact backTo_no h j h1 hj e
  · rw [wayAt_out ho j (by omega)] at e; omega
theorem hole : ∀ (n : Nat) (f : Nat → Nat), (∀ i, i ≤ n → f i < n) → ∃ i j, i < j ∧ j ≤ n ∧ f i = f j := by
  intro n
  induction n with
  | zero => intro f h; exact absurd (h 0 (by omega)) (by omega)
  | succ n ih =>
    intro f h
    by_cases hx : ∃ i, i ≤ n ∧ f i = f (n + 1)
    · obtain ⟨i, h1, h2⟩ := hx; exact ⟨i, n + 1, by omega, by omega, h2⟩
    · have hne : ∀ i, i ≤ n → f i ≠ f (n + 1) := fun i hi e => hx ⟨i, hi, e⟩
      obtain ⟨i, j, h1, h2, h3⟩ := ih (fun i => if f i = n then f (n + 1) else f i) (fun i hi => by
        have a1 := h i (by omega); have a2 := h (n + 1) (by omega); have a3 := hne i hi
        show (if f i = n then f (n + 1) else f i) < n
        split <;> omega)
      refine ⟨i, j, h1, by omega, ?_⟩
      have a1 := hne i (by omega); have a2 := hne j h2
      split at h3 <;> split at h3 <;> omega
theorem wayAt_add {xs : List Int} {k i j : Nat} (h : wayAt xs k i = wayAt xs k j) : ∀ d, wayAt xs k (i + d) = wayAt xs k (j + d) := by
  intro d
  induction d with
  | zero => exact h
  | succ d ih => show nx xs (wayAt xs k (i + d)) = nx xs (wayAt xs k (j + d)); rw [ih]
/-- Who is not back in n steps is not back in n + 1. -/
theorem back_last {xs : List Int} {k : Nat} (hk : k < xs.length) (h : backTo xs k xs.length = false) : wayAt xs k (xs.length + 1) ≠ k := by
  intro e
  have hin : ∀ t, t ≤ xs.length → 0 ≤ wayAt xs k t ∧ wayAt xs k t < xs.length := by
    intro t ht
    by_cases ho : 0 ≤ wayAt xs k t ∧ wayAt xs k t < xs.length
    · exact ho
    · rw [wayAt_out ho (xs.length + 1) (by omega)] at e; omega
  obtain ⟨i, j, h1, h2, h3⟩ := hole xs.length (fun t => (wayAt xs k t).toNat) (fun t ht => by have := hin t ht; show (wayAt xs k t).toNat < _; omega)
  have h4 : wayAt xs k i = wayAt xs k j := by have := hin i (by omega); have := hin j h2; omega
  have h5 := wayAt_add h4 (xs.length + 1 - j)
  rw [show j + (xs.length + 1 - j) = xs.length + 1 by omega, e] at h5
  exact backTo_no h _ (by omega) (by omega) h5
end Go.Proofs.Ytbbacodhklanjaa
