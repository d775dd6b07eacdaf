/- The room from a cistern on: the program's walk. -/
import Derived.Test.YtbmgmolnknnaiaaWay2
namespace Go.Proofs.Ytbmgmolnknnaiaa
open Go.RowKit

def roomTo (ps : List (Int × Int)) (ys : List Int) : Nat → Int
  | 0 => 0
  | k + 1 => roomTo ps ys k + spaceV (gp ps (gi ys k).toNat).1 (gp ps (gi ys k).toNat).2
def roomV (ps : List (Int × Int)) (xs : List Int) (k : Int) : Int := if (wayV ps xs k).length = 0 then -1 else roomTo ps (wayV ps xs k) (wayV ps xs k).length
theorem space_bd (r l : Int) : -1 ≤ spaceV r l ∧ spaceV r l ≤ 1000000 := by
  unfold spaceV
  split
  · rename_i h; have := cistB_true h; omega
  · omega
theorem roomTo_bd (ps : List (Int × Int)) (ys : List Int) (k : Nat) : -1 * (k : Int) ≤ roomTo ps ys k ∧ roomTo ps ys k ≤ 1000000 * k := by
  induction k with
  | zero => simp [roomTo]
  | succ k ih =>
    have := space_bd (gp ps (gi ys k).toNat).1 (gp ps (gi ys k).toNat).2
    simp only [roomTo]; omega
theorem wayTo_pos (xs : List Int) (k : Nat) : ∀ t, 1 ≤ t → 1 ≤ (wayTo xs k t).length := by
  intro t
  induction t with
  | zero => intro h; omega
  | succ t ih =>
    intro _
    by_cases e : t = 0
    · subst e
      have : (0 : Int) ≤ wayAt xs k 0 := by show (0 : Int) ≤ (k : Int); omega
      rw [wayTo, if_pos this, List.length_append]; simp
    · have := ih (by omega)
      unfold wayTo
      split
      · rw [List.length_append]; omega
      · exact this
theorem wayV_false {ps : List (Int × Int)} {xs : List Int} {k : Int} (h : (chainB ps xs && inB k 0 ((ps.length : Int) - 1)) = false) : (wayV ps xs k).length = 0 := by simp [wayV, h]
theorem wayV_facts {ps : List (Int × Int)} {xs : List Int} {k : Int} (h : (chainB ps xs && inB k 0 ((ps.length : Int) - 1)) = true) : 1 ≤ (wayV ps xs k).length ∧ (wayV ps xs k).length ≤ 10 ∧ ∀ i, i < (wayV ps xs k).length → 0 ≤ gi (wayV ps xs k) i ∧ gi (wayV ps xs k) i < ps.length := by
  have h' := h
  simp only [Bool.and_eq_true] at h'
  obtain ⟨hc, hk⟩ := h'
  have hkb := inB_true hk
  obtain ⟨n, rfl⟩ := Int.eq_ofNat_of_zero_le hkb.1
  obtain ⟨hn, hl, -, -, -⟩ := chainB_parts hc
  have e : wayV ps xs n = wayTo xs n xs.length := by simp [wayV, h]
  rw [e]
  have h1 := wayTo_pos xs n xs.length (by omega)
  have h2 := wayTo_length xs n xs.length
  refine ⟨h1, by omega, fun i hi => ?_⟩
  have := wayTo_bd (way_range hc (k := n) (by omega)) xs.length _ (gi_mem hi)
  omega
end Go.Proofs.Ytbmgmolnknnaiaa
