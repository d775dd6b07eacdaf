/- The running sums of rain: what the two functions make, and what is read off it. -/
import Derived.Test.YthbambpecoffaaaRain1
import Derived.Test.YthbambpecoffaaaSlc
namespace Go.Proofs.Ythbambpecoffaaa
open Go.RowKit

/-- The sums of the first 1, 2, .., k numbers. -/
def sums (xs : List Int) (k : Nat) : List Int := (List.range k).map fun i => sumTo xs (i + 1)
@[simp] theorem sums_length (xs : List Int) (k : Nat) : (sums xs k).length = k := by simp [sums]
theorem sums_succ (xs : List Int) (k : Nat) : sums xs (k + 1) = sums xs k ++ [sumTo xs (k + 1)] := by simp [sums, List.range_succ]
theorem gi_sums {xs : List Int} {k i : Nat} (h : i < k) : gi (sums xs k) i = sumTo xs (i + 1) := by simp [gi, sums, List.getD, h]
theorem sums_i64 {xs : List Int} (hf : Fair xs) {k : Nat} (hk : k ≤ xs.length) : ∀ x ∈ sums xs k, I64 x := by
  intro x hx
  simp only [sums, List.mem_map, List.mem_range] at hx
  obtain ⟨i, hi, rfl⟩ := hx
  have := fair_sum hf (k := i + 1) (by omega)
  unfold I64; omega
def sumsL (xs : List Int) : List Int := if rainB xs then sums xs xs.length else []
theorem sumsOf_any {v : Value} {xs : List Int} (w : World) (h : Ints w v xs) : Calls Try.prog 38 #[v] w (RetI 3 w (sumsL xs)) := by
  unfold sumsL
  have H := hid h
  obtain ⟨_, a, cap, rfl, hcap, hmax, hat⟩ := h
  unfold maxLen at hmax
  cases hr : rainB xs
  · clear hat
    go_enter Try.func38, Try.ntmps38
    go_wp2_with (go_at_call 27; refine (rainOk_any _ H.out).mono ?_; rintro e w' ⟨rfl, rfl⟩)
    go_ret
    exact ⟨_, rfl, ⟨by simp, World.ownsRow_nil _ _ _ _⟩, gr_refl _ _⟩
  · have HF := hid (fair_rain hr)
    have hlen := rainB_len hr
    obtain ⟨i0, hi, hz0, hz1, hz2⟩ := info_parts info_int
    go_enter Try.func38, Try.ntmps38
    go_wp2_with (go_at_call 27; refine (rainOk_any _ H.out).mono ?_; rintro e w' ⟨rfl, rfl⟩)
    go_loopw [3, 4, 12] (fun u n i wr => ∃ k : Nat, k ≤ xs.length ∧ i = .int .i64 k ∧ n = .int .i64 (sumTo xs k) ∧ wr.ownsRow w.heap.size 3 1 u k ((sums xs k).map (Value.int .i64)) ∧ Gr w wr none) (fun _ _ i _ => xs.length - (intOf i).toNat)
    case atStart => exact ⟨0, Nat.zero_le _, rfl, rfl, World.ownsRow_nil _ _ _ _, gr_refl _ _⟩
    case round =>
      obtain ⟨k, hk, rfl, rfl, hown, hg⟩ := hrel
      by_cases hlt : k < xs.length
      · obtain ⟨b, off, rfl, hc⟩ : ∃ b off, a = some ⟨b, off, none⟩ ∧ IntsAt w b off xs := by
          rcases hat with h0 | h0
          · subst h0; simp at hlt
          · exact h0
        have hcell := hc.kept hg (by simp) k hlt
        have b1 := HF.out.2 k hlt
        have b2 := fair_sum HF.out hk
        have hsz := gr_le hg
        clear hat hc
        have hsz' : w.heap.size ≤ wr.heap.size + 1 := by omega
        go_wp2_with (at_builtin; refine wpList_append_own _ rfl _ _ 32 rfl w.heap.size 3 i0 (.int .i64 0) 1 8 Try.underlying32 hi hz0 hz1 hz2 rfl (by decide) _ _ _ rfl (hown.alloc _) ⟨wr.heap.size, 0, none⟩ 1 1 [.int .i64 (sumTo xs k + gi xs k)] rfl rfl (new_one _ _ _) (one_int _) (by unfold maxLen; omega) (by omega) (by simpa using hsz') ?_)
        intro v' w1 hown' hgrow _
        have hg1 := gr_append hg hown (Nat.le_refl _) hgrow
        have HO := hid hown'
        clear hown' hgrow hown hsz hsz'
        go_wp2
        go_roundw
        case rel => exact ⟨k + 1, by omega, by go_num, rfl, by rw [sums_succ, List.map_append]; exact HO.out, hg1⟩
        case measure => simp [intOf]; omega
      · have hkl : k = xs.length := by omega
        subst hkl
        clear hat
        go_wp2
        go_ret
        exact ⟨_, rfl, ⟨sums_i64 HF.out (Nat.le_refl _), by rw [sums_length]; exact hown⟩, hg⟩
theorem sSumsOf_any {v : Value} {xs : List Int} (w : World) (h : Ints w v xs) : Calls Try.prog 37 #[v] w (RetI 3 w (sumsL xs)) := by
  unfold sumsL
  have H := hid h
  obtain ⟨_, a, cap, rfl, hcap, hmax, hat⟩ := h
  unfold maxLen at hmax
  obtain ⟨i0, hi, hz0, hz1, hz2⟩ := info_parts info_int
  cases hr : rainB xs
  · clear hat
    by_cases h0 : xs.length = 0
    · obtain rfl : xs = [] := by simpa using h0
      clear h0
      go_enter Try.func37, Try.ntmps37
      go_wp2_with fail
      refine Go.wp_loop_rounds 1 ?_
      rw [Go.rounds_succ]
      go_wp2
      go_ret
      exact ⟨_, rfl, ⟨by simp, World.ownsRow_made _ _ _ (Nat.le_refl _) (by unfold maxLen; omega) rfl⟩, (by repeat (first | (with_reducible exact gr_refl _ _) | (with_reducible assumption) | (with_reducible refine gr_drew ?_) | (with_reducible refine gr_drewN ?_ _) | (with_reducible refine gr_alloc ?_ _) | (with_reducible refine gr_set ?_ (.inr (by simp; done)) _) | (with_reducible refine gr_set ?_ (.inr (by simp; omega)) _) | (with_reducible refine gr_then ?_ (by with_reducible assumption))))⟩
    · have h0' : (0 : Int) < (xs.length : Int) := by omega
      clear h0
      go_enter Try.func37, Try.ntmps37
      go_wp2_with fail
      refine Go.wp_loop_rounds 1 ?_
      rw [Go.rounds_succ]
      go_wp2_with (go_at_call 25; refine (sRainOk_any _ (H.out.on (gr_alloc (gr_refl _ _) _))).mono ?_; rintro e w' ⟨rfl, rfl⟩)
      go_ret
      exact ⟨_, rfl, ⟨by simp, World.ownsRow_made _ _ _ (Nat.le_refl _) (by unfold maxLen; omega) rfl⟩, (by repeat (first | (with_reducible exact gr_refl _ _) | (with_reducible assumption) | (with_reducible refine gr_drew ?_) | (with_reducible refine gr_drewN ?_ _) | (with_reducible refine gr_alloc ?_ _) | (with_reducible refine gr_set ?_ (.inr (by simp; done)) _) | (with_reducible refine gr_set ?_ (.inr (by simp; omega)) _) | (with_reducible refine gr_then ?_ (by with_reducible assumption))))⟩
  · have HF := hid (fair_rain hr)
    have hlen := rainB_len hr
    go_enter Try.func37, Try.ntmps37
    go_wp2_with fail
    go_loopw [3, 4, 5] (fun u n i wr => ∃ k : Nat, k ≤ xs.length ∧ i = .int .i64 k ∧ n = .int .i64 (sumTo xs k) ∧ wr.ownsRow w.heap.size 3 1 u k ((sums xs k).map (Value.int .i64)) ∧ Gr w wr none) (fun _ _ i _ => xs.length - (intOf i).toNat)
    case atStart => exact ⟨0, Nat.zero_le _, rfl, rfl, World.ownsRow_made _ _ _ (Nat.le_refl _) (by unfold maxLen; omega) rfl, (by repeat (first | (with_reducible exact gr_refl _ _) | (with_reducible assumption) | (with_reducible refine gr_drew ?_) | (with_reducible refine gr_drewN ?_ _) | (with_reducible refine gr_alloc ?_ _) | (with_reducible refine gr_set ?_ (.inr (by simp; done)) _) | (with_reducible refine gr_set ?_ (.inr (by simp; omega)) _) | (with_reducible refine gr_then ?_ (by with_reducible assumption))))⟩
    case round =>
      obtain ⟨k, hk, rfl, rfl, hown, hg⟩ := hrel
      by_cases hlt : k < xs.length
      · obtain ⟨b, off, rfl, hc⟩ : ∃ b off, a = some ⟨b, off, none⟩ ∧ IntsAt w b off xs := by
          rcases hat with h0 | h0
          · subst h0; simp at hlt
          · exact h0
        have hcell := hc.kept hg (by simp) k hlt
        have b1 := HF.out.2 k hlt
        have b2 := fair_sum HF.out hk
        have hsz := gr_le hg
        have hsz' : w.heap.size ≤ wr.heap.size + 1 := by omega
        clear hat hc
        go_wp2_with (first
          | (go_at_call 25; refine (sRainOk_any _ (H.out.on hg)).mono ?_; rintro e w' ⟨rfl, rfl⟩)
          | (at_builtin; refine wpList_append_own _ rfl _ _ 32 rfl w.heap.size 3 i0 (.int .i64 0) 1 8 Try.underlying32 hi hz0 hz1 hz2 rfl (by decide) _ _ _ rfl (hown.alloc _) ⟨wr.heap.size, 0, none⟩ 1 1 [.int .i64 (sumTo xs k + gi xs k)] rfl rfl (new_one _ _ _) (one_int _) (by unfold maxLen; omega) (by omega) (by simpa using hsz') ?_))
        intro v' w1 hown' hgrow _
        have hg1 := gr_append hg hown (Nat.le_refl _) hgrow
        have HO := hid hown'
        clear hown' hgrow hown hsz hsz'
        go_wp2
        go_roundw
        case rel => exact ⟨k + 1, by omega, by go_num, rfl, by rw [sums_succ, List.map_append]; exact HO.out, hg1⟩
        case measure => simp [intOf]; omega
      · have hkl : k = xs.length := by omega
        subst hkl
        clear hat
        go_wp2
        go_ret
        exact ⟨_, rfl, ⟨sums_i64 HF.out (Nat.le_refl _), by rw [sums_length]; exact hown⟩, hg⟩
end Go.Proofs.Ythbambpecoffaaa
