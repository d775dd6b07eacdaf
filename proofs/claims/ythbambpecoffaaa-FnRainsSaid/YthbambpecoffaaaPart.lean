/- Parts of the rain: the wettest week, and whether a part is wet. -/
import Derived.Test.YthbambpecoffaaaSums
namespace Go.Proofs.Ythbambpecoffaaa
open Go.RowKit

/-- The sum of d numbers from place k on. -/
def part (xs : List Int) (d k : Nat) : Int := sumTo xs (k + d) - sumTo xs k
/-- The greatest of the first k parts, and its first place. -/
def mostTo (xs : List Int) (d : Nat) : Nat → Int
  | 0 => -1
  | k + 1 => if mostTo xs d k < part xs d k then part xs d k else mostTo xs d k
def placeTo (xs : List Int) (d : Nat) (z : Int) : Nat → Int
  | 0 => z
  | k + 1 => if mostTo xs d k < part xs d k then (k : Nat) else placeTo xs d z k
theorem sumTo_mono {xs : List Int} (hf : Fair xs) {i : Nat} : ∀ d, i + d ≤ xs.length → sumTo xs i ≤ sumTo xs (i + d) := by
  intro d
  induction d with
  | zero => intro _; exact Int.le_refl _
  | succ d ih =>
    intro h
    have h1 := ih (by omega)
    have h2 := hf.2 (i + d) (by omega)
    show _ ≤ sumTo xs (i + d + 1)
    simp only [sumTo]
    omega
theorem part_bd {xs : List Int} (hf : Fair xs) {d k : Nat} (h : k + d ≤ xs.length) : 0 ≤ part xs d k ∧ part xs d k ≤ 1000000000000000 := by
  have h1 := sumTo_mono hf d h
  have h2 := fair_sum hf h
  have h3 := fair_sum hf (k := k) (by omega)
  unfold part; omega
theorem mostTo_bd {xs : List Int} (hf : Fair xs) {d : Nat} : ∀ k, k + d ≤ xs.length + 1 → -1 ≤ mostTo xs d k ∧ mostTo xs d k ≤ 1000000000000000 := by
  intro k
  induction k with
  | zero => intro _; simp [mostTo]
  | succ k ih =>
    intro h
    have h1 := ih (by omega)
    have h2 := part_bd hf (d := d) (k := k) (by omega)
    unfold mostTo
    split <;> omega
theorem placeTo_bd {xs : List Int} {d : Nat} {z : Int} (hz : -1 ≤ z ∧ z ≤ 0) : ∀ k, -1 ≤ placeTo xs d z k ∧ placeTo xs d z k ≤ k := by
  intro k
  induction k with
  | zero => simp [placeTo]; omega
  | succ k ih => unfold placeTo; split <;> omega
/-- The sublist of d numbers from place i on. -/
def sub (xs : List Int) (i d : Nat) : List Int := (xs.drop i).take d
theorem sub_length {xs : List Int} {i d : Nat} (h : i + d ≤ xs.length) : (sub xs i d).length = d := by simp [sub]; omega
theorem gi_sub {xs : List Int} {i d j : Nat} (h : j < d) : gi (sub xs i d) j = gi xs (i + j) := by
  simp [gi, sub, List.getD, h]
theorem sub_sum {xs : List Int} {i d : Nat} : ∀ j, j ≤ d → sumTo (sub xs i d) j = sumTo xs (i + j) - sumTo xs i := by
  intro j
  induction j with
  | zero => intro _; simp [sumTo]
  | succ j ih =>
    intro h
    have h1 := ih (by omega)
    show sumTo (sub xs i d) j + gi (sub xs i d) j = sumTo xs (i + j + 1) - sumTo xs i
    simp only [sumTo]
    rw [h1, gi_sub (by omega)]; omega
theorem fair_sub {xs : List Int} (hf : Fair xs) {i d : Nat} (h : i + d ≤ xs.length) : Fair (sub xs i d) := by
  have h1 := hf.1
  refine ⟨by rw [sub_length h]; omega, fun j hj => ?_⟩
  rw [sub_length h] at hj
  rw [gi_sub hj]
  exact hf.2 _ (by omega)
theorem ints_sub {w : World} {b off : Nat} {cap : Nat} {xs : List Int} (hb : ∀ x ∈ xs, I64 x) (hc : IntsAt w b off xs) (hcap : xs.length ≤ cap) (hm : cap ≤ 9223372036854775807) {i d : Nat} (h : i + d ≤ xs.length) :
    Ints w (.slice (some ⟨b, off + i, none⟩) d (cap - i)) (sub xs i d) := by
  refine ⟨fun x hx => hb x (List.mem_of_mem_drop (List.mem_of_mem_take hx)), _, _, by rw [sub_length h], by rw [sub_length h]; omega, by unfold maxLen; omega, .inr ⟨b, off + i, rfl, fun j hj => ?_⟩⟩
  rw [sub_length h] at hj
  rw [gi_sub hj, Nat.add_assoc]
  exact hc (i + j) (by omega)
/-- Whether one of the first k parts reaches the sum. -/
def WetTo (xs : List Int) (d : Nat) (s : Int) (k : Nat) : Prop := ∀ i, i < k → part xs d i < s
theorem wet_most {xs : List Int} {d : Nat} {s : Int} : ∀ k, WetTo xs d s k → 0 ≤ s → mostTo xs d k < s := by
  intro k
  induction k with
  | zero => intro _ h; simp [mostTo]; omega
  | succ k ih =>
    intro h h0
    have h1 := ih (fun i hi => h i (by omega)) h0
    have h2 := h k (by omega)
    unfold mostTo; split <;> assumption
theorem most_part {xs : List Int} {d : Nat} : ∀ k i, i < k → part xs d i ≤ mostTo xs d k := by
  intro k
  induction k with
  | zero => intro i h; omega
  | succ k ih =>
    intro i h
    unfold mostTo
    by_cases e : i = k
    · subst e; split <;> omega
    · have := ih i (by omega)
      split <;> omega
def wetV (xs : List Int) (d : Int) (s : Int) : Bool := rainB xs && inB d 1 xs.length && decide (s ≤ mostTo xs d.toNat (xs.length - d.toNat + 1))
theorem hasWetPart_any {v : Value} {xs : List Int} (d s : Int) (w : World) (h : Ints w v xs) :
    Calls Try.prog 42 #[v, .int .i64 d, .int .i64 s] w fun e w' => e = .returned (.bool (wetV xs d s)) ∧ w = w' := by
  unfold wetV
  have H := hid h
  obtain ⟨hbd, a, cap, rfl, hcap, hmax, hat⟩ := h
  unfold maxLen at hmax
  have HB := hid hbd
  clear hbd
  cases hr : rainB xs
  · clear hat
    go_enter Try.func42, Try.ntmps42
    go_wp2_with (go_at_call 27; refine (rainOk_any _ H.out).mono ?_; rintro e w' ⟨rfl, rfl⟩)
    go_ret
    exact ⟨rfl, rfl⟩
  cases hd : inB d 1 xs.length
  · clear hat
    go_enter Try.func42, Try.ntmps42
    go_wp2_with (first | (go_at_call 27; refine (rainOk_any _ H.out).mono ?_; rintro e w' ⟨rfl, rfl⟩) | (go_at_call 59; refine (within_any _ _ _ _).mono ?_; rintro e w' ⟨rfl, rfl⟩))
    go_ret
    exact ⟨rfl, rfl⟩
  · have hd2 := inB_true hd
    have hlen := rainB_len hr
    have HF := hid (fair_rain hr)
    obtain ⟨n, rfl⟩ := Int.eq_ofNat_of_zero_le (show 0 ≤ d by omega)
    rw [Int.toNat_natCast]
    go_enter Try.func42, Try.ntmps42
    go_wp2_with (first | (go_at_call 27; refine (rainOk_any _ H.out).mono ?_; rintro e w' ⟨rfl, rfl⟩) | (go_at_call 59; refine (within_any _ _ _ _).mono ?_; rintro e w' ⟨rfl, rfl⟩))
    obtain ⟨b, off, rfl, hc⟩ : ∃ b off, a = some ⟨b, off, none⟩ ∧ IntsAt w b off xs := by
      rcases hat with h0 | h0
      · subst h0; simp at hlen
      · exact h0
    have HC := hid hc
    clear hat hc
    go_loop [7] (fun i => ∃ k : Nat, k + n ≤ xs.length + 1 ∧ i = .int .i64 k ∧ WetTo xs n s k) (fun i => xs.length + 1 - (intOf i).toNat)
    case atStart => exact ⟨0, by omega, rfl, fun i hi => absurd hi (Nat.not_lt_zero i)⟩
    case round =>
      obtain ⟨k, hk, rfl, hwet⟩ := hrel
      have HW := hid hwet
      clear hwet
      by_cases hlt : k + n ≤ xs.length
      · have i1 : (k : Int) + n ≤ xs.length := by omega
        have hp := part_bd HF.out (d := n) (k := k) hlt
        have esum : sumTo (sub xs k n) (sub xs k n).length = part xs n k := by
          rw [sub_length hlt, sub_sum n (Nat.le_refl _)]; rfl
        have ES := hid esum
        clear esum
        go_wp2_with fail
        refine (sumOf_any _ (ints_sub HB.out HC.out hcap hmax hlt) (fair_sub HF.out hlt)).mono ?_
        rw [ES.out]
        rintro e w' ⟨rfl, rfl⟩
        by_cases hq : s ≤ part xs n k
        · go_wp2
          go_ret
          refine ⟨ret_bool ?_, rfl⟩
          have := most_part (xs := xs) (d := n) (xs.length - n + 1) k (by omega)
          simp
          omega
        · have hq' : part xs n k < s := by omega
          go_wp2
          go_round
          case rel => exact ⟨k + 1, by omega, by go_num, fun i hi => by
            by_cases e : i = k
            · rw [e]; exact hq'
            · exact HW.out i (by omega)⟩
          case measure => simp [intOf]; omega
      · have i1 : ¬ ((k : Int) + n ≤ xs.length) := by omega
        go_wp2
        go_ret
        refine ⟨ret_bool ?_, rfl⟩
        have hk' : k = xs.length - n + 1 := by omega
        have hw := HW.out
        rw [hk'] at hw
        have h0 : 0 ≤ s := by
          have := hw 0 (by omega)
          have := part_bd HF.out (d := n) (k := 0) (by omega)
          omega
        have := wet_most _ hw h0
        simp
        omega
theorem l02Part_any {v : Value} {xs : List Int} (n : Nat) (w : World) (h : Ints w v xs) (hr : rainB xs = true) (h1 : 1 ≤ n) (h2 : n ≤ xs.length) :
    Calls Try.prog 63 #[v, .int .i64 n] w fun e w' => e = .returned (.tuple #[.int .i64 (placeTo xs n 0 (xs.length - n + 1)), .int .i64 (mostTo xs n (xs.length - n + 1))]) ∧ Gr w w' none := by
  have hlen := rainB_len hr
  have HF := hid (fair_rain hr)
  have esl : sumsL xs = sums xs xs.length := by rw [sumsL, if_pos hr]
  have ESL := hid esl
  clear esl
  go_enter Try.func63, Try.ntmps63
  go_wp2_with fail
  refine (sSumsOf_any _ h).mono ?_
  rw [ESL.out]
  rintro e w1 ⟨s, rfl, os, g1⟩
  have h' := h.on g1
  obtain ⟨_, a, cap, rfl, hcap, hmax, hat⟩ := h'
  obtain ⟨_, a', cap', rfl, hcap', hmax', hat'⟩ := os.ints
  rw [sums_length] at hcap' ⊢
  unfold maxLen at hmax hmax'
  obtain ⟨b, off, rfl, hc⟩ : ∃ b off, a = some ⟨b, off, none⟩ ∧ IntsAt w1 b off xs := by
    rcases hat with h0 | h0
    · subst h0; simp at hlen
    · exact h0
  obtain ⟨b', off', rfl, hc'⟩ : ∃ b off, a' = some ⟨b, off, none⟩ ∧ IntsAt w1 b off (sums xs xs.length) := by
    rcases hat' with h0 | h0
    · have := congrArg List.length h0
      rw [sums_length] at this
      simp only [List.length_nil] at this
      omega
    · exact h0
  have HC := hid hc
  have HC' := hid hc'
  clear hat hat' hc hc' os h
  go_wp2_with fail
  go_loopw [7, 8, 9] (fun p m i wr => ∃ k : Nat, k + n ≤ xs.length + 1 ∧ i = .int .i64 k ∧ p = .int .i64 (placeTo xs n 0 k) ∧ m = .int .i64 (mostTo xs n k) ∧ Gr w1 wr none) (fun _ _ i _ => xs.length + 1 - (intOf i).toNat)
  case atStart => exact ⟨0, by omega, rfl, rfl, rfl, gr_refl _ _⟩
  case round =>
    obtain ⟨k, hk, rfl, rfl, rfl, hg⟩ := hrel
    by_cases hlt : k + n ≤ xs.length
    · have hp := part_bd HF.out (d := n) (k := k) hlt
      have hm := mostTo_bd HF.out (d := n) k hk
      have c1 := HC.out.kept hg (by simp) k (by omega)
      have c2 := HC'.out.kept hg (by simp) k (by simp; omega)
      have c3 := HC'.out.kept hg (by simp) (k + n - 1) (by simp; omega)
      rw [gi_sums (by omega)] at c2 c3
      rw [show k + n - 1 + 1 = k + n from by omega] at c3
      have ep : sumTo xs (k + n) - sumTo xs (k + 1) + gi xs k = part xs n k := by unfold part; simp only [sumTo]; omega
      have EP := hid ep
      have e1 := HF.out.2 k (by omega)
      have e2 := fair_sum HF.out (k := k + n) hlt
      have e3 := fair_sum HF.out (k := k + 1) (by omega)
      have e4 := sumTo_mono HF.out (i := k + 1) (n - 1) (by omega)
      rw [show k + 1 + (n - 1) = k + n from by omega] at e4
      clear ep
      generalize hA : sumTo xs (k + n) = A at *
      generalize hB : sumTo xs (k + 1) = B at *
      generalize hX : gi xs k = X at *
      clear hA hB hX
      go_wp2_with fail
      have q1 : IntKind.i64.wrap ((k : Int) + n) = (k : Int) + n := IntWalk.i64_in _ (by omega)
      have q2 : IntKind.i64.wrap ((k : Int) + n - 1) = (k : Int) + n - 1 := IntWalk.i64_in _ (by omega)
      have q3 : ((k : Int) + n - 1).toNat = k + n - 1 := by omega
      have q4 : (0 : Int) ≤ (k : Int) + n - 1 := by omega
      have q5 : (k : Int) + n - 1 < (xs.length : Int) := by omega
      have q6 : (k : Int) < (xs.length : Int) := by omega
      have q7 : (0 : Int) ≤ (k : Int) := by omega
      have q8 : IntKind.i64.wrap (A - B) = A - B := IntWalk.i64_in _ (by omega)
      have q9 : IntKind.i64.wrap (A - B + X) = A - B + X := IntWalk.i64_in _ (by omega)
      have E1 : Hid (mostTo xs n k < part xs n k → placeTo xs n 0 (k + 1) = k ∧ mostTo xs n (k + 1) = part xs n k) := fun h => ⟨by rw [placeTo, if_pos h], by rw [mostTo, if_pos h]⟩
      have E2 : Hid (¬ mostTo xs n k < part xs n k → placeTo xs n 0 (k + 1) = placeTo xs n 0 k ∧ mostTo xs n (k + 1) = mostTo xs n k) := fun h => ⟨by rw [placeTo, if_neg h], by rw [mostTo, if_neg h]⟩
      go_quiet (fail)
      clear q1 q2 q3 q4 q5 q6 q7 q8 q9 c1 c2 c3
      by_cases hq : mostTo xs n k < A - B + X
      · go_wp2
        go_roundw
        case rel =>
          have r := E1.out (by rw [← EP.out]; exact hq)
          exact ⟨k + 1, by omega, by go_num, by rw [r.1], by rw [r.2, EP.out], gr_drewN hg _⟩
        case measure => simp [intOf]; omega
      · go_wp2
        go_roundw
        case rel =>
          have r := E2.out (by rw [← EP.out]; exact hq)
          exact ⟨k + 1, by omega, by go_num, by rw [r.1], by rw [r.2], gr_drewN hg _⟩
        case measure => simp [intOf]; omega
    · have i1 : ¬ ((k : Int) + n ≤ xs.length) := by omega
      have hk' : k = xs.length - n + 1 := by omega
      have HK := hid hk'
      clear hk'
      go_wp2
      go_ret2
      exact ⟨by rw [← HK.out]; rfl, gr_then g1 hg⟩
theorem sHasWetPart_any {v : Value} {xs : List Int} (d s : Int) (w : World) (h : Ints w v xs) :
    Calls Try.prog 41 #[v, .int .i64 d, .int .i64 s] w fun e w' => e = .returned (.bool (wetV xs d s)) ∧ Gr w w' none := by
  unfold wetV
  have H := hid h
  obtain ⟨_, a, cap, rfl, hcap, hmax, hat⟩ := h
  unfold maxLen at hmax
  clear hat
  cases hr : rainB xs
  · go_enter Try.func41, Try.ntmps41
    go_wp2_with (go_at_call 25; refine (sRainOk_any _ H.out).mono ?_; rintro e w' ⟨rfl, rfl⟩)
    go_ret
    exact ⟨rfl, gr_refl _ _⟩
  cases hd : inB d 1 xs.length
  · go_enter Try.func41, Try.ntmps41
    go_wp2_with (first | (go_at_call 25; refine (sRainOk_any _ H.out).mono ?_; rintro e w' ⟨rfl, rfl⟩) | (go_at_call 58; refine (l01In_any _ _ _ _).mono ?_; rintro e w' ⟨rfl, rfl⟩))
    go_ret
    exact ⟨rfl, gr_refl _ _⟩
  · have hd2 := inB_true hd
    obtain ⟨n, rfl⟩ := Int.eq_ofNat_of_zero_le (show 0 ≤ d by omega)
    rw [Int.toNat_natCast]
    generalize hM : mostTo xs n (xs.length - n + 1) = M
    have HM := hid hM
    clear hM
    go_enter Try.func41, Try.ntmps41
    go_wp2_with (first | (go_at_call 25; refine (sRainOk_any _ H.out).mono ?_; rintro e w' ⟨rfl, rfl⟩) | (go_at_call 58; refine (l01In_any _ _ _ _).mono ?_; rintro e w' ⟨rfl, rfl⟩) | (go_at_call 63; refine (l02Part_any n _ H.out hr (by omega) (by omega)).mono ?_; rw [HM.out]; rintro e w' ⟨rfl, hg⟩))
    go_ret
    exact ⟨by simp, hg⟩
/-- The wettest week: its first day and its sum. -/
def weekD (xs : List Int) : Nat := min 7 xs.length
def weekV (xs : List Int) : Int × Int := if rainB xs then (placeTo xs (weekD xs) 0 (xs.length - weekD xs + 1), mostTo xs (weekD xs) (xs.length - weekD xs + 1)) else (-1, -1)
theorem place_any {xs : List Int} (hf : Fair xs) {d : Nat} (y z : Int) : ∀ k, 0 < k → k + d ≤ xs.length + 1 → placeTo xs d y k = placeTo xs d z k := by
  intro k
  induction k with
  | zero => intro h; omega
  | succ k ih =>
    intro _ h
    by_cases h0 : k = 0
    · subst h0
      have := part_bd hf (d := d) (k := 0) (by omega)
      have hlt : mostTo xs d 0 < part xs d 0 := by show (-1 : Int) < _; omega
      simp only [placeTo, if_pos hlt]
    · have e := ih (by omega) (by omega)
      unfold placeTo
      rw [e]
theorem wettestWeek_short {v : Value} {xs : List Int} (w : World) (h : Ints w v xs) (hr : rainB xs = true) (hn : (xs.length<7)) (K : Nat) (HK : Hid (K = xs.length - xs.length + 1)) :
    Calls Try.prog 49 #[v] w fun e w' => e = .returned (.tuple #[.int .i64 (placeTo xs xs.length (-1) K), .int .i64 (mostTo xs xs.length K)]) ∧ w = w' := by
  have H := hid h
  obtain ⟨hbd, a, cap, rfl, hcap, hmax, hat⟩ := h
  unfold maxLen at hmax
  have HB := hid hbd
  clear hbd
  have hlen := rainB_len hr
  have HF := hid (fair_rain hr)
  obtain ⟨b, off, rfl, hc⟩ : ∃ b off, a = some ⟨b, off, none⟩ ∧ IntsAt w b off xs := by
    rcases hat with h0 | h0
    · subst h0; simp at hlen
    · exact h0
  have HC := hid hc
  clear hat hc
  go_enter Try.func49, Try.ntmps49
  go_wp2_with (go_at_call 27; refine (rainOk_any _ H.out).mono ?_; rintro e w' ⟨rfl, rfl⟩)
  go_loop [5, 6, 7] (fun p m i => ∃ k : Nat, k + xs.length ≤ xs.length + 1 ∧ i = .int .i64 k ∧ p = .int .i64 (placeTo xs xs.length (-1) k) ∧ m = .int .i64 (mostTo xs xs.length k)) (fun _ _ i => xs.length + 1 - (intOf i).toNat)
  case atStart => exact ⟨0, by omega, rfl, rfl, rfl⟩
  case round =>
    obtain ⟨k, hk, rfl, rfl, rfl⟩ := hrel
    by_cases hlt : k + xs.length ≤ xs.length
    · have i1 : (k : Int) + (xs.length:Int) ≤ xs.length := by omega
      have hp := part_bd HF.out (d := xs.length) (k := k) hlt
      have esum : sumTo (sub xs k xs.length) (sub xs k xs.length).length = part xs xs.length k := by
        rw [sub_length hlt, sub_sum xs.length (Nat.le_refl _)]; rfl
      have ES := hid esum
      have E1 : Hid (mostTo xs xs.length k < part xs xs.length k → placeTo xs xs.length (-1) (k + 1) = k ∧ mostTo xs xs.length (k + 1) = part xs xs.length k) := fun h => ⟨by rw [placeTo, if_pos h], by rw [mostTo, if_pos h]⟩
      have E2 : Hid (¬ mostTo xs xs.length k < part xs xs.length k → placeTo xs xs.length (-1) (k + 1) = placeTo xs xs.length (-1) k ∧ mostTo xs xs.length (k + 1) = mostTo xs xs.length k) := fun h => ⟨by rw [placeTo, if_neg h], by rw [mostTo, if_neg h]⟩
      clear esum
      go_wp2_with fail
      refine (sumOf_any _ (ints_sub HB.out HC.out hcap hmax hlt) (fair_sub HF.out hlt)).mono ?_
      rw [ES.out]
      rintro e w' ⟨rfl, rfl⟩
      by_cases hq : mostTo xs xs.length k < part xs xs.length k
      · go_wp2
        go_round
        case rel => exact ⟨k + 1, by omega, by go_num, by rw [(E1.out hq).1], by rw [(E1.out hq).2]⟩
        case measure => simp [intOf]; omega
      · go_wp2
        go_round
        case rel => exact ⟨k + 1, by omega, by go_num, by rw [(E2.out hq).1], by rw [(E2.out hq).2]⟩
        case measure => simp [intOf]; omega
    · have i1 : ¬ ((k : Int) + (xs.length:Int) ≤ xs.length) := by omega
      obtain rfl : K = k := by have := HK.out; omega
      go_wp2
      go_ret2
      exact ⟨rfl, rfl⟩
theorem wettestWeek_long {v : Value} {xs : List Int} (w : World) (h : Ints w v xs) (hr : rainB xs = true) (hn : (7≤xs.length)) (K : Nat) (HK : Hid (K = xs.length - 7 + 1)) :
    Calls Try.prog 49 #[v] w fun e w' => e = .returned (.tuple #[.int .i64 (placeTo xs 7 (-1) K), .int .i64 (mostTo xs 7 K)]) ∧ w = w' := by
  have H := hid h
  obtain ⟨hbd, a, cap, rfl, hcap, hmax, hat⟩ := h
  unfold maxLen at hmax
  have HB := hid hbd
  clear hbd
  have hlen := rainB_len hr
  have HF := hid (fair_rain hr)
  obtain ⟨b, off, rfl, hc⟩ : ∃ b off, a = some ⟨b, off, none⟩ ∧ IntsAt w b off xs := by
    rcases hat with h0 | h0
    · subst h0; simp at hlen
    · exact h0
  have HC := hid hc
  clear hat hc
  go_enter Try.func49, Try.ntmps49
  go_wp2_with (go_at_call 27; refine (rainOk_any _ H.out).mono ?_; rintro e w' ⟨rfl, rfl⟩)
  go_loop [5, 6, 7] (fun p m i => ∃ k : Nat, k + 7 ≤ xs.length + 1 ∧ i = .int .i64 k ∧ p = .int .i64 (placeTo xs 7 (-1) k) ∧ m = .int .i64 (mostTo xs 7 k)) (fun _ _ i => xs.length + 1 - (intOf i).toNat)
  case atStart => exact ⟨0, by omega, rfl, rfl, rfl⟩
  case round =>
    obtain ⟨k, hk, rfl, rfl, rfl⟩ := hrel
    by_cases hlt : k + 7 ≤ xs.length
    · have i1 : (k : Int) + (7:Int) ≤ xs.length := by omega
      have hp := part_bd HF.out (d := 7) (k := k) hlt
      have esum : sumTo (sub xs k 7) (sub xs k 7).length = part xs 7 k := by
        rw [sub_length hlt, sub_sum 7 (Nat.le_refl _)]; rfl
      have ES := hid esum
      have E1 : Hid (mostTo xs 7 k < part xs 7 k → placeTo xs 7 (-1) (k + 1) = k ∧ mostTo xs 7 (k + 1) = part xs 7 k) := fun h => ⟨by rw [placeTo, if_pos h], by rw [mostTo, if_pos h]⟩
      have E2 : Hid (¬ mostTo xs 7 k < part xs 7 k → placeTo xs 7 (-1) (k + 1) = placeTo xs 7 (-1) k ∧ mostTo xs 7 (k + 1) = mostTo xs 7 k) := fun h => ⟨by rw [placeTo, if_neg h], by rw [mostTo, if_neg h]⟩
      clear esum
      go_wp2_with fail
      refine (sumOf_any _ (ints_sub HB.out HC.out hcap hmax hlt) (fair_sub HF.out hlt)).mono ?_
      rw [ES.out]
      rintro e w' ⟨rfl, rfl⟩
      by_cases hq : mostTo xs 7 k < part xs 7 k
      · go_wp2
        go_round
        case rel => exact ⟨k + 1, by omega, by go_num, by rw [(E1.out hq).1], by rw [(E1.out hq).2]⟩
        case measure => simp [intOf]; omega
      · go_wp2
        go_round
        case rel => exact ⟨k + 1, by omega, by go_num, by rw [(E2.out hq).1], by rw [(E2.out hq).2]⟩
        case measure => simp [intOf]; omega
    · have i1 : ¬ ((k : Int) + (7:Int) ≤ xs.length) := by omega
      obtain rfl : K = k := by have := HK.out; omega
      go_wp2
      go_ret2
      exact ⟨rfl, rfl⟩
theorem wettestWeek_any {v : Value} {xs : List Int} (w : World) (h : Ints w v xs) :
    Calls Try.prog 49 #[v] w fun e w' => e = .returned (.tuple #[.int .i64 (weekV xs).1, .int .i64 (weekV xs).2]) ∧ w = w' := by
  cases hr : rainB xs
  · have e1 : weekV xs = (-1, -1) := by rw [weekV, if_neg (by rw [hr]; simp)]
    rw [e1]
    clear e1
    go_enter Try.func49, Try.ntmps49
    go_wp2_with (go_at_call 27; refine (rainOk_any _ h).mono ?_; rintro e w' ⟨rfl, rfl⟩)
    go_ret2
    exact ⟨rfl, rfl⟩
  · have hlen := rainB_len hr
    have e1 : weekV xs = (placeTo xs (weekD xs) (-1) (xs.length - weekD xs + 1), mostTo xs (weekD xs) (xs.length - weekD xs + 1)) := by
      rw [weekV, if_pos hr, place_any (fair_rain hr) 0 (-1) _ (by omega) (by unfold weekD; omega)]
    rw [e1]
    by_cases hn : xs.length < 7
    · have e2 : weekD xs = xs.length := by unfold weekD; omega
      rw [e2]
      exact wettestWeek_short w h hr hn _ (hid rfl)
    · have e2 : weekD xs = 7 := by unfold weekD; omega
      rw [e2]
      exact wettestWeek_long w h hr (by omega) _ (hid rfl)
theorem sWettestWeek_short {v : Value} {xs : List Int} (w : World) (h : Ints w v xs) (hr : rainB xs = true) (hn : (xs.length<7)) :
    Calls Try.prog 48 #[v] w fun e w' => e = .returned (.tuple #[.int .i64 (placeTo xs xs.length 0 (xs.length - xs.length + 1)), .int .i64 (mostTo xs xs.length (xs.length - xs.length + 1))]) ∧ Gr w w' none := by
  have H := hid h
  obtain ⟨_, a, cap, rfl, hcap, hmax, hat⟩ := h
  unfold maxLen at hmax
  clear hat
  have hlen := rainB_len hr
  generalize hP : placeTo xs xs.length 0 (xs.length - xs.length + 1) = P
  generalize hM : mostTo xs xs.length (xs.length - xs.length + 1) = M
  have HP := hid hP
  have HM := hid hM
  clear hP hM
  go_enter Try.func48, Try.ntmps48
  go_wp2_with (first | (go_at_call 25; refine (sRainOk_any _ H.out).mono ?_; rintro e w' ⟨rfl, rfl⟩) | (go_at_call 63; refine (l02Part_any xs.length _ H.out hr (by omega) (by omega)).mono ?_; rw [HP.out, HM.out]; rintro e w' ⟨rfl, hg⟩))
  go_ret2
  exact ⟨rfl, hg⟩
theorem sWettestWeek_long {v : Value} {xs : List Int} (w : World) (h : Ints w v xs) (hr : rainB xs = true) (hn : (7≤xs.length)) :
    Calls Try.prog 48 #[v] w fun e w' => e = .returned (.tuple #[.int .i64 (placeTo xs 7 0 (xs.length - 7 + 1)), .int .i64 (mostTo xs 7 (xs.length - 7 + 1))]) ∧ Gr w w' none := by
  have H := hid h
  obtain ⟨_, a, cap, rfl, hcap, hmax, hat⟩ := h
  unfold maxLen at hmax
  clear hat
  have hlen := rainB_len hr
  generalize hP : placeTo xs 7 0 (xs.length - 7 + 1) = P
  generalize hM : mostTo xs 7 (xs.length - 7 + 1) = M
  have HP := hid hP
  have HM := hid hM
  clear hP hM
  go_enter Try.func48, Try.ntmps48
  go_wp2_with (first | (go_at_call 25; refine (sRainOk_any _ H.out).mono ?_; rintro e w' ⟨rfl, rfl⟩) | (go_at_call 63; refine (l02Part_any 7 _ H.out hr (by omega) (by omega)).mono ?_; rw [HP.out, HM.out]; rintro e w' ⟨rfl, hg⟩))
  go_ret2
  exact ⟨rfl, hg⟩
theorem sWettestWeek_any {v : Value} {xs : List Int} (w : World) (h : Ints w v xs) :
    Calls Try.prog 48 #[v] w fun e w' => e = .returned (.tuple #[.int .i64 (weekV xs).1, .int .i64 (weekV xs).2]) ∧ Gr w w' none := by
  cases hr : rainB xs
  · have e1 : weekV xs = (-1, -1) := by rw [weekV, if_neg (by rw [hr]; simp)]
    rw [e1]
    clear e1
    go_enter Try.func48, Try.ntmps48
    go_wp2_with (go_at_call 25; refine (sRainOk_any _ h).mono ?_; rintro e w' ⟨rfl, rfl⟩)
    go_ret2
    exact ⟨rfl, gr_refl _ _⟩
  · have hlen := rainB_len hr
    have e1 : weekV xs = (placeTo xs (weekD xs) 0 (xs.length - weekD xs + 1), mostTo xs (weekD xs) (xs.length - weekD xs + 1)) := by
      rw [weekV, if_pos hr]
    rw [e1]
    by_cases hn : xs.length < 7
    · have e2 : weekD xs = xs.length := by unfold weekD; omega
      rw [e2]
      exact sWettestWeek_short w h hr hn
    · have e2 : weekD xs = 7 := by unfold weekD; omega
      rw [e2]
      exact sWettestWeek_long w h hr (by omega)
end Go.Proofs.Ythbambpecoffaaa
