/- What a year's sums keep. No program is in sight. -/
import Derived.Test.YtmnfainepmnpeaaYMono
namespace Go.Proofs.Ytmnfainepmnpeaa
open Go.RowKit

theorem year_kept {r s n : Int} {xs : List Int} (h : yearB r s xs n = true) : ∀ k, k ≤ xs.length → sumF (drawnAt r s n xs) k + sumF (lostAt r s n xs) k + levAt r s n xs k = s + sumTo xs k := by
  intro k
  induction k with
  | zero => intro _; simp [sumF, sumTo, levAt]
  | succ k ih =>
    intro hk
    have h1 := ih (by omega)
    obtain ⟨e1, e2, e3⟩ := (day_law h k (by omega)).2 (by omega)
    simp only [sumF, sumTo]
    omega
theorem lev_top {r s n : Int} {xs : List Int} (h : yearB r s xs n = true) {k : Nat} (hk : k < xs.length) : 0 ≤ levAt r s n xs (k + 1) ∧ levAt r s n xs (k + 1) ≤ max 0 (r - n) ∧ levAt r s n xs (k + 1) ≤ 1000000 := by
  have h1 := (day_bd h hk).2.1
  rw [lev_next h hk] at h1 ⊢
  omega
theorem short_lev {r s n : Int} {xs : List Int} (h : yearB r s xs n = true) {k : Nat} (hk : k < xs.length) (hd : drawnAt r s n xs k < n) : levAt r s n xs (k + 1) = 0 := by
  obtain ⟨e1, e2, e3⟩ := (day_law h k (by omega)).2 hk
  omega
theorem short_dry {r s n : Int} {xs : List Int} (h : yearB r s xs n = true) : ∀ k, k ≤ xs.length → ((shortTo r s n xs k).length : Int) ≤ sumF (dryAt r s n xs) k := by
  intro k
  induction k with
  | zero => intro _; simp [shortTo, whereTo, sumF]
  | succ k ih =>
    intro hk
    have h1 := ih (by omega)
    have e : shortTo r s n xs (k + 1) = if decide (drawnAt r s n xs k < n) = true then shortTo r s n xs k ++ [(k : Int)] else shortTo r s n xs k := rfl
    have e0 := dry_bd r s n xs k
    rw [e, show sumF (dryAt r s n xs) (k + 1) = sumF (dryAt r s n xs) k + dryAt r s n xs k from rfl]
    split
    · rename_i hd
      have h2 := short_lev h (by omega) (of_decide_eq_true hd)
      rw [show dryAt r s n xs k = 1 from by rw [dryAt, if_pos h2], List.length_append]
      simp only [List.length_cons, List.length_nil]
      omega
    · omega
theorem drawn_full {r s n : Int} {xs : List Int} (h : yearB r s xs n = true) : ∀ k, k ≤ xs.length → sumF (drawnAt r s n xs) k ≤ n * k ∧ (sumF (drawnAt r s n xs) k = n * k ↔ (shortTo r s n xs k).length = 0) := by
  intro k
  induction k with
  | zero => intro _; simp [shortTo, whereTo, sumF]
  | succ k ih =>
    intro hk
    obtain ⟨h1, h2⟩ := ih (by omega)
    have e : shortTo r s n xs (k + 1) = if decide (drawnAt r s n xs k < n) = true then shortTo r s n xs k ++ [(k : Int)] else shortTo r s n xs k := rfl
    have hb := (day_bd h (show k < xs.length by omega)).2.2.2.2
    have en : n * ((k + 1 : Nat) : Int) = n * k + n := by rw [Int.natCast_add, Int.mul_add]; simp
    rw [e, en, show sumF (drawnAt r s n xs) (k + 1) = sumF (drawnAt r s n xs) k + drawnAt r s n xs k from rfl]
    split
    · rename_i hd
      have hd := of_decide_eq_true hd
      refine ⟨by omega, fun h3 => by omega, fun h3 => ?_⟩
      rw [List.length_append] at h3
      simp at h3
    · rename_i hd
      have hd : ¬ drawnAt r s n xs k < n := fun h' => hd (decide_eq_true h')
      refine ⟨by omega, fun h3 => h2.1 (by omega), fun h3 => ?_⟩
      have := h2.2 h3
      omega
theorem where_p (p : Nat → Bool) (k : Nat) : ∀ x ∈ whereTo p k, ∃ i : Nat, x = i ∧ i < k ∧ p i = true := by
  induction k with
  | zero => simp [whereTo]
  | succ k ih =>
    intro x hx
    have e : whereTo p (k + 1) = if p k = true then whereTo p k ++ [(k : Int)] else whereTo p k := rfl
    rw [e] at hx
    split at hx
    · rename_i hp
      rcases List.mem_append.1 hx with h | h
      · obtain ⟨i, h1, h2, h3⟩ := ih x h; exact ⟨i, h1, by omega, h3⟩
      · simp at h; exact ⟨k, h, by omega, hp⟩
    · obtain ⟨i, h1, h2, h3⟩ := ih x hx; exact ⟨i, h1, by omega, h3⟩
theorem short_at {r s n : Int} {xs : List Int} (h : yearB r s xs n = true) {j : Nat} (hj : j < (shortTo r s n xs xs.length).length) : ∃ i : Nat, gi (shortTo r s n xs xs.length) j = i ∧ i < xs.length ∧ levAt r s n xs (i + 1) = 0 := by
  obtain ⟨i, h1, h2, h3⟩ := where_p _ _ _ (gi_mem hj)
  exact ⟨i, h1, h2, short_lev h h2 (of_decide_eq_true h3)⟩
end Go.Proofs.Ytmnfainepmnpeaa
