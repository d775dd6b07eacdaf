/- The walks over lists of numbers that are only read. -/
import Derived.Test.YthbambpecoffaaaRows
import Derived.Test.YthbambpecoffaaaBase
import Derived.Test.YthbambpecoffaaaCommon
namespace Go.Proofs.Ythbambpecoffaaa
open Go.RowKit

/-- All numbers of the list lie in the range. -/
def allB (xs : List Int) (lo hi : Int) : Bool := xs.all fun x => inB x lo hi
theorem allB_mk {xs : List Int} {lo hi : Int} (h : ∀ i, i < xs.length → inB (gi xs i) lo hi = true) : allB xs lo hi = true := by
  simp only [allB, List.all_eq_true]
  intro x hx
  obtain ⟨i, hi, rfl⟩ := List.mem_iff_getElem.1 hx
  have := h i hi
  rwa [gi_lt hi] at this
theorem allB_get {xs : List Int} {lo hi : Int} (h : allB xs lo hi = true) {i : Nat} (hi' : i < xs.length) : lo ≤ gi xs i ∧ gi xs i ≤ hi := by
  simp only [allB, List.all_eq_true] at h
  exact inB_true (h _ (gi_mem hi'))
theorem allB_no {xs : List Int} {lo hi : Int} {i : Nat} (hi' : i < xs.length) (h : inB (gi xs i) lo hi = false) : allB xs lo hi = false := by
  cases e : allB xs lo hi
  · rfl
  · have := inB_mk (allB_get e hi')
    rw [h] at this; cases this
/-- The first k numbers lie in the range. -/
def AllTo (xs : List Int) (lo hi : Int) (k : Nat) : Prop := ∀ i, i < k → inB (gi xs i) lo hi = true
theorem allTo_zero (xs : List Int) (lo hi : Int) : AllTo xs lo hi 0 := fun i h => absurd h (Nat.not_lt_zero i)
theorem allTo_succ {xs : List Int} {lo hi : Int} {k : Nat} (h : AllTo xs lo hi k) (hk : inB (gi xs k) lo hi = true) : AllTo xs lo hi (k + 1) := by
  intro i hi'
  by_cases e : i = k
  · rw [e]; exact hk
  · exact h i (by omega)

theorem allWithin_any {v : Value} {xs : List Int} (lo hi : Int) (w : World) (h : Ints w v xs) :
    Calls Try.prog 60 #[v, .int .i64 lo, .int .i64 hi] w fun e w' => e = .returned (.bool (allB xs lo hi)) ∧ w = w' := by
  obtain ⟨_, a, cap, rfl, hcap, hmax, hat⟩ := h
  unfold maxLen at hmax
  go_enter Try.func60, Try.ntmps60
  go_wp2
  go_loop [11] (fun i => ∃ k : Nat, k ≤ xs.length ∧ i = .int .i64 k ∧ AllTo xs lo hi k) (fun i => xs.length - (intOf i).toNat)
  case atStart => exact ⟨0, Nat.zero_le _, rfl, allTo_zero _ _ _⟩
  case round =>
    obtain ⟨k, hk, rfl, hall⟩ := hrel
    by_cases hlt : k < xs.length
    · obtain ⟨b, off, rfl, hc⟩ : ∃ b off, a = some ⟨b, off, none⟩ ∧ IntsAt w b off xs := by
        rcases hat with h0 | h0
        · subst h0; simp at hlt
        · exact h0
      have hcell := hc k hlt
      have HA := hid hall
      clear hall hat hc
      cases hb : inB (gi xs k) lo hi
      · go_wp2_with (go_at_call 59; refine (within_any _ _ _ _).mono ?_; rintro e w' ⟨rfl, rfl⟩)
        go_ret
        exact ⟨ret_bool (allB_no hlt hb).symm, rfl⟩
      · go_wp2_with (go_at_call 59; refine (within_any _ _ _ _).mono ?_; rintro e w' ⟨rfl, rfl⟩)
        go_round
        case rel => exact ⟨k + 1, by omega, by go_num, allTo_succ HA.out hb⟩
        case measure => simp [intOf]; omega
    · have HA := hid hall
      clear hall hat
      go_wp2
      go_ret
      exact ⟨ret_bool (allB_mk fun i hi' => HA.out i (by omega)).symm, rfl⟩
/-- Rain in range. -/
def rainB (xs : List Int) : Bool := inB xs.length 1 400 && allB xs 0 300
theorem rainB_len {xs : List Int} (h : rainB xs = true) : 1 ≤ xs.length ∧ xs.length ≤ 400 := by
  simp only [rainB, Bool.and_eq_true] at h
  have := inB_true h.1; omega
theorem rainB_get {xs : List Int} (h : rainB xs = true) {i : Nat} (hi : i < xs.length) : 0 ≤ gi xs i ∧ gi xs i ≤ 300 := by
  simp only [rainB, Bool.and_eq_true] at h
  exact allB_get h.2 hi
theorem rainOk_any {v : Value} {xs : List Int} (w : World) (h : Ints w v xs) :
    Calls Try.prog 27 #[v] w fun e w' => e = .returned (.bool (rainB xs)) ∧ w = w' := by
  have h' := hid h
  obtain ⟨_, a, cap, rfl, hcap, hmax, hat⟩ := h
  unfold maxLen at hmax
  clear hat
  unfold rainB
  cases hl : inB (xs.length : Int) 1 400
  all_goals
    go_enter Try.func27, Try.ntmps27
    go_wp2_with (first | (go_at_call 59; refine (within_any _ _ _ _).mono ?_; rintro e w' ⟨rfl, rfl⟩) | (go_at_call 60; refine (allWithin_any _ _ _ h'.out).mono ?_; rintro e w' ⟨rfl, rfl⟩))
    go_ret
    exact ⟨rfl, rfl⟩
theorem sRainOk_any {v : Value} {xs : List Int} (w : World) (h : Ints w v xs) :
    Calls Try.prog 25 #[v] w fun e w' => e = .returned (.bool (rainB xs)) ∧ w = w' := by
  obtain ⟨_, a, cap, rfl, hcap, hmax, hat⟩ := h
  unfold maxLen at hmax
  go_enter Try.func25, Try.ntmps25
  go_wp2
  go_loop [3] (fun i => ∃ k : Nat, k ≤ xs.length ∧ i = .int .i64 k ∧ AllTo xs 0 300 k) (fun i => xs.length - (intOf i).toNat)
  case atStart => exact ⟨0, Nat.zero_le _, rfl, allTo_zero _ _ _⟩
  case round =>
    obtain ⟨k, hk, rfl, hall⟩ := hrel
    have HA := hid hall
    clear hall
    by_cases hlt : k < xs.length
    · obtain ⟨b, off, rfl, hc⟩ : ∃ b off, a = some ⟨b, off, none⟩ ∧ IntsAt w b off xs := by
        rcases hat with h0 | h0
        · subst h0; simp at hlt
        · exact h0
      have hcell := hc k hlt
      clear hat hc
      cases hb : inB (gi xs k) 0 300
      · go_wp2_with (go_at_call 58; refine (l01In_any _ _ _ _).mono ?_; rintro e w' ⟨rfl, rfl⟩)
        go_ret
        exact ⟨ret_bool (by rw [rainB, allB_no hlt hb, Bool.and_false]), rfl⟩
      · go_wp2_with (go_at_call 58; refine (l01In_any _ _ _ _).mono ?_; rintro e w' ⟨rfl, rfl⟩)
        go_round
        case rel => exact ⟨k + 1, by omega, by go_num, allTo_succ HA.out hb⟩
        case measure => simp [intOf]; omega
    · clear hat
      have hall : allB xs 0 300 = true := allB_mk fun i hi' => HA.out i (by omega)
      have HB := hid hall
      clear hall
      go_wp2_with (go_at_call 58; refine (l01In_any _ _ _ _).mono ?_; rintro e w' ⟨rfl, rfl⟩)
      go_ret
      exact ⟨ret_bool (by rw [rainB, HB.out, Bool.and_true]), rfl⟩
/-- The sum of the first k numbers. -/
def sumTo (xs : List Int) : Nat → Int
  | 0 => 0
  | k + 1 => sumTo xs k + gi xs k
theorem sumTo_bd {xs : List Int} {M : Int} (h : ∀ i, i < xs.length → 0 ≤ gi xs i ∧ gi xs i ≤ M) : ∀ k, k ≤ xs.length → 0 ≤ sumTo xs k ∧ sumTo xs k ≤ M * k := by
  intro k
  induction k with
  | zero => intro _; simp [sumTo]
  | succ k ih =>
    intro hk
    have h1 := ih (by omega)
    have h2 := h k (by omega)
    have e : M * ((k + 1 : Nat) : Int) = M * k + M := by rw [Int.natCast_add, Int.mul_add]; simp
    rw [e]
    simp only [sumTo]
    omega
/-- The bounds under which a sum over a list does not wrap. -/
def Fair (xs : List Int) : Prop := xs.length ≤ 1000000 ∧ ∀ i, i < xs.length → 0 ≤ gi xs i ∧ gi xs i ≤ 1000000000
theorem fair_sum {xs : List Int} (h : Fair xs) {k : Nat} (hk : k ≤ xs.length) : 0 ≤ sumTo xs k ∧ sumTo xs k ≤ 1000000000000000 := by
  have h1 := sumTo_bd h.2 k hk
  have h2 := h.1
  omega
theorem fair_rain {xs : List Int} (h : rainB xs = true) : Fair xs := by
  refine ⟨by have := rainB_len h; omega, fun i hi => by have := rainB_get h hi; omega⟩
theorem sumOf_any {v : Value} {xs : List Int} (w : World) (h : Ints w v xs) (hf : Fair xs) :
    Calls Try.prog 62 #[v] w fun e w' => e = .returned (.int .i64 (sumTo xs xs.length)) ∧ w = w' := by
  obtain ⟨_, a, cap, rfl, hcap, hmax, hat⟩ := h
  unfold maxLen at hmax
  have HF := hid hf
  clear hf
  go_enter Try.func62, Try.ntmps62
  go_wp2
  go_loop [3, 8] (fun n i => ∃ k : Nat, k ≤ xs.length ∧ i = .int .i64 k ∧ n = .int .i64 (sumTo xs k)) (fun _ i => xs.length - (intOf i).toNat)
  case atStart => exact ⟨0, Nat.zero_le _, rfl, rfl⟩
  case round =>
    obtain ⟨k, hk, rfl, rfl⟩ := hrel
    by_cases hlt : k < xs.length
    · obtain ⟨b, off, rfl, hc⟩ : ∃ b off, a = some ⟨b, off, none⟩ ∧ IntsAt w b off xs := by
        rcases hat with h0 | h0
        · subst h0; simp at hlt
        · exact h0
      have hcell := hc k hlt
      have b1 := HF.out.2 k hlt
      have b2 := fair_sum HF.out hk
      clear hat hc
      go_wp2
      go_round
      case rel => exact ⟨k + 1, by omega, by go_num, rfl⟩
      case measure => simp [intOf]; omega
    · have hkl : k = xs.length := by omega
      subst hkl
      clear hat
      go_wp2
      go_ret
      exact ⟨rfl, rfl⟩
def totalV (xs : List Int) : Int := if rainB xs then sumTo xs xs.length else -1
theorem totalRain_any {v : Value} {xs : List Int} (w : World) (h : Ints w v xs) :
    Calls Try.prog 32 #[v] w fun e w' => e = .returned (.int .i64 (totalV xs)) ∧ w = w' := by
  unfold totalV
  cases hr : rainB xs
  all_goals
    go_enter Try.func32, Try.ntmps32
    go_wp2_with (first | (go_at_call 27; refine (rainOk_any _ h).mono ?_; rintro e w' ⟨rfl, rfl⟩) | (go_at_call 62; refine (sumOf_any _ h (fair_rain hr)).mono ?_; rintro e w' ⟨rfl, rfl⟩))
    go_ret
    exact ⟨rfl, rfl⟩
theorem sTotalRain_any {v : Value} {xs : List Int} (w : World) (h : Ints w v xs) :
    Calls Try.prog 31 #[v] w fun e w' => e = .returned (.int .i64 (totalV xs)) ∧ w = w' := by
  unfold totalV
  have H := hid h
  obtain ⟨_, a, cap, rfl, hcap, hmax, hat⟩ := h
  unfold maxLen at hmax
  cases hr : rainB xs
  · clear hat
    go_enter Try.func31, Try.ntmps31
    go_wp2_with (go_at_call 25; refine (sRainOk_any _ H.out).mono ?_; rintro e w' ⟨rfl, rfl⟩)
    go_ret
    exact ⟨rfl, rfl⟩
  · have HF := hid (fair_rain hr)
    go_enter Try.func31, Try.ntmps31
    go_wp2_with (go_at_call 25; refine (sRainOk_any _ H.out).mono ?_; rintro e w' ⟨rfl, rfl⟩)
    go_loop [3, 4] (fun n i => ∃ k : Nat, k ≤ xs.length ∧ i = .int .i64 k ∧ n = .int .i64 (sumTo xs k)) (fun _ i => xs.length - (intOf i).toNat)
    case atStart => exact ⟨0, Nat.zero_le _, rfl, rfl⟩
    case round =>
      obtain ⟨k, hk, rfl, rfl⟩ := hrel
      by_cases hlt : k < xs.length
      · obtain ⟨b, off, rfl, hc⟩ : ∃ b off, a = some ⟨b, off, none⟩ ∧ IntsAt w b off xs := by
          rcases hat with h0 | h0
          · subst h0; simp at hlt
          · exact h0
        have hcell := hc k hlt
        have b1 := HF.out.2 k hlt
        have b2 := fair_sum HF.out hk
        clear hat hc
        go_wp2
        go_round
        case rel => exact ⟨k + 1, by omega, by go_num, rfl⟩
        case measure => simp [intOf]; omega
      · have hkl : k = xs.length := by omega
        subst hkl
        clear hat
        go_wp2
        go_ret
        exact ⟨rfl, rfl⟩
end Go.Proofs.Ythbambpecoffaaa
