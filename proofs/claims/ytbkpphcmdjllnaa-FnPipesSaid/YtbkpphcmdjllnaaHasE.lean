/- Is a place in a list: walk. -/
import Derived.Test.YtbkpphcmdjllnaaMembers
namespace Go.Proofs.Ytbkpphcmdjllnaa
open Go.RowKit

def hasB (ys : List Int) (k : Int) : Bool := ys.any fun x => x == k
theorem hasB_yes {ys : List Int} {k : Int} {i : Nat} (hi : i < ys.length) (h : gi ys i = k) : hasB ys k = true := by
  unfold hasB
  rw [List.any_eq_true]
  exact ⟨_, gi_mem hi, by rw [gi_lt hi] at h; simp [gi_lt hi, h]⟩
theorem hasB_no {ys : List Int} {k : Int} (h : ∀ i, i < ys.length → gi ys i ≠ k) : hasB ys k = false := by
  unfold hasB
  rw [List.any_eq_false]
  intro x hx
  obtain ⟨i, hi, rfl⟩ := List.mem_iff_getElem.1 hx
  have := h i hi
  rw [gi_lt hi] at this
  simpa using this
theorem hasB_get {ys : List Int} {k : Int} (h : hasB ys k = false) : ∀ i, i < ys.length → gi ys i ≠ k := fun i hi e => by rw [hasB_yes hi e] at h; cases h
theorem has_any {u : Value} {ys : List Int} (k : Int) (w : World) (hu : Ints w u ys) :
    Calls Try.prog 18 #[u, .int .i64 k] w fun e w' => e = .returned (.bool (hasB ys k)) ∧ w = w' := by
  obtain ⟨_, a, cap, rfl, hcap, hmax, hat⟩ := hu
  unfold maxLen at hmax
  go_enter Try.func18, Try.ntmps18
  go_wp2
  go_loop [5] (fun i => ∃ j : Nat, j ≤ ys.length ∧ i = .int .i64 j ∧ ∀ i, i < j → gi ys i ≠ k) (fun i => ys.length - (intOf i).toNat)
  case atStart => exact ⟨0, Nat.zero_le _, rfl, fun i h => absurd h (Nat.not_lt_zero _)⟩
  case round =>
    obtain ⟨j, hj, rfl, hno⟩ := hrel
    have HNO := hid hno
    clear hno
    by_cases hlt : j < ys.length
    · obtain ⟨b, off, rfl, hc⟩ : ∃ b off, a = some ⟨b, off, none⟩ ∧ IntsAt w b off ys := by
        rcases hat with h0 | h0
        · subst h0; simp at hlt
        · exact h0
      have hcell := hc j hlt
      have h1 : (j : Int) < (ys.length : Int) := by omega
      clear hc hat
      by_cases hq : gi ys j = k
      · have hqb : (gi ys j == k) = true := by simpa using hq
        have HQ := hid (hasB_yes hlt hq)
        clear hq
        go_wp2
        go_ret
        exact ⟨ret_bool HQ.out.symm, rfl⟩
      · have hqb : (gi ys j == k) = false := by simpa using hq
        have HQ := hid hq
        clear hq
        go_wp2
        go_round
        case rel => exact ⟨j + 1, by omega, by go_num, fun i hi => by
          by_cases e : i = j
          · rw [e]; exact HQ.out
          · exact HNO.out i (by omega)⟩
        case measure => simp [intOf]; omega
    · have hkl : j = ys.length := by omega
      subst hkl
      clear hat
      go_wp2
      go_ret
      exact ⟨ret_bool (hasB_no HNO.out).symm, rfl⟩
/-- The list of a set's places has a place if the set has it. -/
theorem has_mem {M p : Nat} (hp : p < 8) : hasB (memTo M 8) (p : Int) = M.testBit p := by
  cases hb : M.testBit p
  · refine hasB_no fun i hi e => ?_
    have := gi_mem hi
    rw [e, memTo_mem] at this
    rw [hb] at this
    exact absurd this.2 (by simp)
  · have hm : (p : Int) ∈ memTo M 8 := (memTo_mem 8).2 ⟨hp, hb⟩
    obtain ⟨i, hi, e⟩ := List.mem_iff_getElem.1 hm
    exact hasB_yes hi (by rw [gi_lt hi, e])
end Go.Proofs.Ytbkpphcmdjllnaa
