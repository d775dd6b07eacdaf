/- The walks over lists of numbers that are only read. -/
import Derived.Test.YtbmgmolnknnaiaaRows
import Derived.Test.YtbmgmolnknnaiaaBase
import Derived.Test.YtbmgmolnknnaiaaCommon
namespace Go.Proofs.Ytbmgmolnknnaiaa
open Go.RowKit

/-- All numbers of the list lie in the range. -/
def allB (xs : List Int) (lo hi : Int) : Bool := xs.all fun x => inB x lo hi
theorem allB_mk {xs : List Int} {lo hi : Int} (h : ∀ i, i < xs.length → inB (gi xs i) lo hi = true) : allB xs lo hi = true := by
  simp only [allB, List.all_eq_true]
  intro x hx
  obtain ⟨i, hi, rfl⟩ := List.mem_iff_getElem.1 hx
  have := h i hi
  rwa [gi_lt hi] at this
theorem allB_get {xs : List Int} {lo hi : Int} (h : allB xs lo hi = true) {i : Nat} (hi' : i < xs.length) : lo ≤ gi xs i ∧ gi xs i ≤ hi := by
  simp only [allB, List.all_eq_true] at h
  exact inB_true (h _ (gi_mem hi'))
theorem allB_no {xs : List Int} {lo hi : Int} {i : Nat} (hi' : i < xs.length) (h : inB (gi xs i) lo hi = false) : allB xs lo hi = false := by
  cases e : allB xs lo hi
  · rfl
  · have := inB_mk (allB_get e hi')
    rw [h] at this; cases this
/-- The first k numbers lie in the range. -/
def AllTo (xs : List Int) (lo hi : Int) (k : Nat) : Prop := ∀ i, i < k → inB (gi xs i) lo hi = true
theorem allTo_zero (xs : List Int) (lo hi : Int) : AllTo xs lo hi 0 := fun i h => absurd h (Nat.not_lt_zero i)
theorem allTo_succ {xs : List Int} {lo hi : Int} {k : Nat} (h : AllTo xs lo hi k) (hk : inB (gi xs k) lo hi = true) : AllTo xs lo hi (k + 1) := by
  intro i hi'
  by_cases e : i = k
  · rw [e]; exact hk
  · exact h i (by omega)

theorem allWithin_any {v : Value} {xs : List Int} (lo hi : Int) (w : World) (h : Ints w v xs) :
    Calls Try.prog 35 #[v, .int .i64 lo, .int .i64 hi] w fun e w' => e = .returned (.bool (allB xs lo hi)) ∧ w = w' := by
  obtain ⟨_, a, cap, rfl, hcap, hmax, hat⟩ := h
  unfold maxLen at hmax
  go_enter Try.func35, Try.ntmps35
  go_wp2
  go_loop [11] (fun i => ∃ k : Nat, k ≤ xs.length ∧ i = .int .i64 k ∧ AllTo xs lo hi k) (fun i => xs.length - (intOf i).toNat)
  case atStart => exact ⟨0, Nat.zero_le _, rfl, allTo_zero _ _ _⟩
  case round =>
    obtain ⟨k, hk, rfl, hall⟩ := hrel
    by_cases hlt : k < xs.length
    · obtain ⟨b, off, rfl, hc⟩ : ∃ b off, a = some ⟨b, off, none⟩ ∧ IntsAt w b off xs := by
        rcases hat with h0 | h0
        · subst h0; simp at hlt
        · exact h0
      have hcell := hc k hlt
      have HA := hid hall
      clear hall hat hc
      cases hb : inB (gi xs k) lo hi
      · go_wp2_with (go_at_call 29; refine (within_any _ _ _ _).mono ?_; rintro e w' ⟨rfl, rfl⟩)
        go_ret
        exact ⟨ret_bool (allB_no hlt hb).symm, rfl⟩
      · go_wp2_with (go_at_call 29; refine (within_any _ _ _ _).mono ?_; rintro e w' ⟨rfl, rfl⟩)
        go_round
        case rel => exact ⟨k + 1, by omega, by go_num, allTo_succ HA.out hb⟩
        case measure => simp [intOf]; omega
    · have HA := hid hall
      clear hall hat
      go_wp2
      go_ret
      exact ⟨ret_bool (allB_mk fun i hi' => HA.out i (by omega)).symm, rfl⟩
end Go.Proofs.Ytbmgmolnknnaiaa
