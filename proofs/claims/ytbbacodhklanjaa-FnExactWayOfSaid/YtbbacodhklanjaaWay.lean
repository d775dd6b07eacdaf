/- Ways down a chain without circles, with no program in sight. -/
import Derived.Test.YtbbacodhklanjaaTotL
namespace Go.Proofs.Ytbbacodhklanjaa
open Go.RowKit

theorem circTo_has {xs : List Int} {a : Nat} (h : backTo xs a xs.length = true) : ∀ k, a < k → (circTo xs k).length ≠ 0 := by
  intro k
  induction k with
  | zero => intro h'; omega
  | succ k ih =>
    intro h'
    by_cases e : a = k
    · subst e
      unfold circTo
      rw [if_pos h, List.length_append]
      simp
    · have := ih (by omega)
      unfold circTo
      split
      · rw [List.length_append]; omega
      · exact this
theorem wayAt_from {xs : List Int} {k i a : Nat} (h : wayAt xs k i = a) : ∀ d, wayAt xs k (i + d) = wayAt xs a d := by
  intro d
  induction d with
  | zero => exact h
  | succ d ih => show nx xs (wayAt xs k (i + d)) = nx xs (wayAt xs a d); rw [ih]
/-- In a chain in order, n steps from a place lead out. -/
theorem way_ends {ps : List (Int × Int)} {xs : List Int} (hc : chainB ps xs = true) (k : Nat) : ¬ (0 ≤ wayAt xs k xs.length ∧ wayAt xs k xs.length < xs.length) := by
  obtain ⟨hn, hl, _, _, h0⟩ := chainB_parts hc
  intro hlast
  have hin : ∀ t, t ≤ xs.length → 0 ≤ wayAt xs k t ∧ wayAt xs k t < xs.length := by
    intro t ht
    by_cases ho : 0 ≤ wayAt xs k t ∧ wayAt xs k t < xs.length
    · exact ho
    · by_cases e : t = xs.length
      · subst e; exact hlast
      · rw [wayAt_out ho xs.length (by omega)] at hlast; omega
  obtain ⟨i, j, h1, h2, h3⟩ := hole xs.length (fun t => (wayAt xs k t).toNat) (fun t ht => by have := hin t ht; show (wayAt xs k t).toNat < _; omega)
  have hi := hin i (by omega)
  have hj := hin j h2
  obtain ⟨a, ha⟩ := Int.eq_ofNat_of_zero_le hi.1
  have h4 : wayAt xs k j = a := by
    have h3' : (wayAt xs k i).toNat = (wayAt xs k j).toNat := h3
    omega
  have h5 := wayAt_from ha (j - i)
  rw [show i + (j - i) = j by omega, h4] at h5
  have h6 : backTo xs a xs.length = true := backTo_true (t := j - i) (by omega) h5.symm _ (by omega)
  have h7 := circTo_has h6 xs.length (by omega)
  rw [show circL xs = circTo xs xs.length from if_pos (by omega)] at h0
  exact h7 h0
/-- The places on the way from k, behind t steps. -/
def wayTo (xs : List Int) (k : Nat) : Nat → List Int
  | 0 => []
  | t + 1 => if 0 ≤ wayAt xs k t then wayTo xs k t ++ [wayAt xs k t] else wayTo xs k t
def wayV (ps : List (Int × Int)) (xs : List Int) (k : Int) : List Int := if chainB ps xs && inB k 0 (ps.length - 1) then wayTo xs k.toNat xs.length else []
theorem wayTo_stop {xs : List Int} {k t : Nat} (h : ¬ 0 ≤ wayAt xs k t) : ∀ n, t ≤ n → wayTo xs k n = wayTo xs k t := by
  intro n
  induction n with
  | zero => intro h'; rw [show t = 0 by omega]
  | succ n ih =>
    intro h'
    by_cases e : t = n + 1
    · subst e; rfl
    · have hneg : ¬ 0 ≤ wayAt xs k n := by
        by_cases e2 : t = n
        · subst e2; exact h
        · rw [wayAt_out (t := t) (by omega) n (by omega)]; omega
      rw [wayTo, if_neg hneg, ih (by omega)]
theorem wayTo_length (xs : List Int) (k t : Nat) : (wayTo xs k t).length ≤ t := by
  induction t with
  | zero => simp [wayTo]
  | succ t ih =>
    unfold wayTo
    split
    · rw [List.length_append]; exact Nat.add_le_add ih (Nat.le_refl 1)
    · omega
end Go.Proofs.Ytbbacodhklanjaa
