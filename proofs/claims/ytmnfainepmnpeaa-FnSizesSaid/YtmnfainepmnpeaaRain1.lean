/- The walks over lists of numbers that are only read. -/
import Derived.Test.YtmnfainepmnpeaaRows
import Derived.Test.YtmnfainepmnpeaaBase
import Derived.Test.YtmnfainepmnpeaaCommon
namespace Go.Proofs.Ytmnfainepmnpeaa
open Go.RowKit

/-- All numbers of the list lie in the range. -/
def allB (xs : List Int) (lo hi : Int) : Bool := xs.all fun x => inB x lo hi
theorem allB_mk {xs : List Int} {lo hi : Int} (h : ∀ i, i < xs.length → inB (gi xs i) lo hi = true) : allB xs lo hi = true := by
  simp only [allB, List.all_eq_true]
  intro x hx
  obtain ⟨i, hi, rfl⟩ := List.mem_iff_getElem.1 hx
  have := h i hi
  rwa [gi_lt hi] at this
theorem allB_get {xs : List Int} {lo hi : Int} (h : allB xs lo hi = true) {i : Nat} (hi' : i < xs.length) : lo ≤ gi xs i ∧ gi xs i ≤ hi := by
  simp only [allB, List.all_eq_true] at h
  exact inB_true (h _ (gi_mem hi'))
theorem allB_no {xs : List Int} {lo hi : Int} {i : Nat} (hi' : i < xs.length) (h : inB (gi xs i) lo hi = false) : allB xs lo hi = false := by
  cases e : allB xs lo hi
  · rfl
  · have := inB_mk (allB_get e hi')
    rw [h] at this; cases this
/-- The first k numbers lie in the range. -/
def AllTo (xs : List Int) (lo hi : Int) (k : Nat) : Prop := ∀ i, i < k → inB (gi xs i) lo hi = true
theorem allTo_zero (xs : List Int) (lo hi : Int) : AllTo xs lo hi 0 := fun i h => absurd h (Nat.not_lt_zero i)
theorem allTo_succ {xs : List Int} {lo hi : Int} {k : Nat} (h : AllTo xs lo hi k) (hk : inB (gi xs k) lo hi = true) : AllTo xs lo hi (k + 1) := by
  intro i hi'
  by_cases e : i = k
  · rw [e]; exact hk
  · exact h i (by omega)

theorem allWithin_any {v : Value} {xs : List Int} (lo hi : Int) (w : World) (h : Ints w v xs) :
    Calls Try.prog 56 #[v, .int .i64 lo, .int .i64 hi] w fun e w' => e = .returned (.bool (allB xs lo hi)) ∧ w = w' := by
  obtain ⟨_, a, cap, rfl, hcap, hmax, hat⟩ := h
  unfold maxLen at hmax
  go_enter Try.func56, Try.ntmps56
  go_wp2
  go_loop [11] (fun i => ∃ k : Nat, k ≤ xs.length ∧ i = .int .i64 k ∧ AllTo xs lo hi k) (fun i => xs.length - (intOf i).toNat)
  case atStart => exact ⟨0, Nat.zero_le _, rfl, allTo_zero _ _ _⟩
  case round =>
    obtain ⟨k, hk, rfl, hall⟩ := hrel
    by_cases hlt : k < xs.length
    · obtain ⟨b, off, rfl, hc⟩ : ∃ b off, a = some ⟨b, off, none⟩ ∧ IntsAt w b off xs := by
        rcases hat with h0 | h0
        · subst h0; simp at hlt
        · exact h0
      have hcell := hc k hlt
      have HA := hid hall
      clear hall hat hc
      cases hb : inB (gi xs k) lo hi
      · go_wp2_with (go_at_call 55; refine (within_any _ _ _ _).mono ?_; rintro e w' ⟨rfl, rfl⟩)
        go_ret
        exact ⟨ret_bool (allB_no hlt hb).symm, rfl⟩
      · go_wp2_with (go_at_call 55; refine (within_any _ _ _ _).mono ?_; rintro e w' ⟨rfl, rfl⟩)
        go_round
        case rel => exact ⟨k + 1, by omega, by go_num, allTo_succ HA.out hb⟩
        case measure => simp [intOf]; omega
    · have HA := hid hall
      clear hall hat
      go_wp2
      go_ret
      exact ⟨ret_bool (allB_mk fun i hi' => HA.out i (by omega)).symm, rfl⟩
/-- The sum of the first k numbers. -/
def sumTo (xs : List Int) : Nat → Int
  | 0 => 0
  | k + 1 => sumTo xs k + gi xs k
theorem sumTo_bd {xs : List Int} {M : Int} (h : ∀ i, i < xs.length → 0 ≤ gi xs i ∧ gi xs i ≤ M) : ∀ k, k ≤ xs.length → 0 ≤ sumTo xs k ∧ sumTo xs k ≤ M * k := by
  intro k
  induction k with
  | zero => intro _; simp [sumTo]
  | succ k ih =>
    intro hk
    have h1 := ih (by omega)
    have h2 := h k (by omega)
    have e : M * ((k + 1 : Nat) : Int) = M * k + M := by rw [Int.natCast_add, Int.mul_add]; simp
    rw [e]
    simp only [sumTo]
    omega
/-- The bounds under which a sum over a list does not wrap. -/
def Fair (xs : List Int) : Prop := xs.length ≤ 1000000 ∧ ∀ i, i < xs.length → 0 ≤ gi xs i ∧ gi xs i ≤ 1000000000
theorem fair_sum {xs : List Int} (h : Fair xs) {k : Nat} (hk : k ≤ xs.length) : 0 ≤ sumTo xs k ∧ sumTo xs k ≤ 1000000000000000 := by
  have h1 := sumTo_bd h.2 k hk
  have h2 := h.1
  omega
theorem sumOf_any {v : Value} {xs : List Int} (w : World) (h : Ints w v xs) (hf : Fair xs) :
    Calls Try.prog 58 #[v] w fun e w' => e = .returned (.int .i64 (sumTo xs xs.length)) ∧ w = w' := by
  obtain ⟨_, a, cap, rfl, hcap, hmax, hat⟩ := h
  unfold maxLen at hmax
  have HF := hid hf
  clear hf
  go_enter Try.func58, Try.ntmps58
  go_wp2
  go_loop [3, 8] (fun n i => ∃ k : Nat, k ≤ xs.length ∧ i = .int .i64 k ∧ n = .int .i64 (sumTo xs k)) (fun _ i => xs.length - (intOf i).toNat)
  case atStart => exact ⟨0, Nat.zero_le _, rfl, rfl⟩
  case round =>
    obtain ⟨k, hk, rfl, rfl⟩ := hrel
    by_cases hlt : k < xs.length
    · obtain ⟨b, off, rfl, hc⟩ : ∃ b off, a = some ⟨b, off, none⟩ ∧ IntsAt w b off xs := by
        rcases hat with h0 | h0
        · subst h0; simp at hlt
        · exact h0
      have hcell := hc k hlt
      have b1 := HF.out.2 k hlt
      have b2 := fair_sum HF.out hk
      clear hat hc
      go_wp2
      go_round
      case rel => exact ⟨k + 1, by omega, by go_num, rfl⟩
      case measure => simp [intOf]; omega
    · have hkl : k = xs.length := by omega
      subst hkl
      clear hat
      go_wp2
      go_ret
      exact ⟨rfl, rfl⟩
end Go.Proofs.Ytmnfainepmnpeaa
