/- The average catch, and whether a year is enough. -/
import Derived.Test.YtmnfainepmnpeaaYShort
import Derived.Deep.QuietTactic
import Derived.BigQuiet
namespace Go.Proofs.Ytmnfainepmnpeaa
open Go.RowKit

def avgV (r s n : Int) (xs : List Int) : Int := if yearB r s xs n then sumTo xs xs.length / xs.length else -1
def enoughB (r s n : Int) (xs : List Int) : Bool := yearB r s xs n && decide ((shortV r s n xs).length = 0)
theorem fair_year {r s n : Int} {xs : List Int} (h : yearB r s xs n = true) : Fair xs := by
  obtain ⟨-, -, hl, hx, -⟩ := yearB_parts h
  exact ⟨by omega, fun i hi => by have := hx i hi; omega⟩
theorem quiet_eq {P : Program} {f : FuncId} {args : Array Value} {w : World} {v : Value} (h : Calls P f args w fun e w' => e = .returned v ∧ w = w') : Calls P f args w fun e w' => e = .returned v ∧ w' = w := h.mono fun _ _ ⟨a, b⟩ => ⟨a, b.symm⟩
theorem averageCatch_any {v : Value} {xs : List Int} (r s n : Int) (w : World) (hv : Ints w v xs) :
    Calls Try.prog 23 #[.agg #[.int .i64 r, .int .i64 s, v, .int .i64 n]] w fun e w' => e = .returned (.int .i64 (avgV r s n xs)) ∧ Gr w w' none := by
  have HV := hid hv
  obtain ⟨_, a, cap, rfl, hcap, hmax, hat⟩ := hv
  clear hat
  cases hy : yearB r s xs n
  · rw [show avgV r s n xs = -1 from by simp [avgV, hy]]
    have HY := hid hy
    clear hy
    go_enter Try.func23, Try.ntmps23
    go_wp2_with fail
    refine (yearOk_any _ _ _ _ (HV.out.on (gr_alloc (gr_refl _ _) _))).mono ?_
    rw [HY.out]
    rintro e w1 ⟨rfl, g1⟩
    go_wp2
    go_ret
    exact ⟨rfl, (by repeat (first | (with_reducible exact gr_refl _ _) | (with_reducible assumption) | (with_reducible refine gr_drew ?_) | (with_reducible refine gr_drewN ?_ _) | (with_reducible refine gr_alloc ?_ _) | (with_reducible refine gr_set ?_ (.inr (by simp; done)) _) | (with_reducible refine gr_set ?_ (.inr (by simp; omega)) _) | (with_reducible refine gr_then ?_ (by with_reducible assumption))))⟩
  · obtain ⟨-, -, hl, -, -⟩ := yearB_parts hy
    have HF := hid (fair_year hy)
    have bs := fair_sum (fair_year hy) (Nat.le_refl _)
    rw [show avgV r s n xs = sumTo xs xs.length / xs.length from by simp [avgV, hy]]
    have HY := hid hy
    have hl0 : ((xs.length : Int) == 0) = false := by have h9 : xs.length ≠ 0 := by omega
                                                      simpa using h9
    have hl1 : (0 : Int) < (xs.length : Int) := by omega
    have HQ : Hid (∀ W, Gr w W none → Calls Try.prog 58 #[.slice a xs.length cap] W fun e w' => e = .returned (.int .i64 (sumTo xs xs.length)) ∧ w' = W) := fun W hg => quiet_eq (sumOf_any _ (HV.out.on hg) HF.out)
    generalize hS : sumTo xs xs.length = SS at *
    have hdv : SS.tdiv (xs.length : Int) = SS / (xs.length : Int) := Int.tdiv_eq_ediv_of_nonneg bs.1
    have hd0 : 0 ≤ SS / (xs.length : Int) := Int.ediv_nonneg bs.1 (by omega)
    have hd1 : SS / (xs.length : Int) ≤ SS := Int.ediv_le_self _ bs.1
    have hwr : IntKind.i64.wrap (SS / (xs.length : Int)) = SS / (xs.length : Int) := IntWalk.i64_in _ (by omega)
    clear hy hS
    go_enter Try.func23, Try.ntmps23
    go_wp2_with fail
    refine (yearOk_any _ _ _ _ (HV.out.on (gr_alloc (gr_refl _ _) _))).mono ?_
    rw [HY.out]
    rintro e w1 ⟨rfl, g1⟩
    obtain ⟨p0, p1, p2, p3, lA⟩ := (yBox_new w 27 r s (.slice a xs.length cap) n).on g1
    have G1 := gr_then (gr_alloc (gr_refl w none) _) g1
    have HG1 := hid G1
    clear g1 G1
    go_wp2_with fail
    go_quiet ((go_at_call 58; exact Calls.quiet_of_same (HQ.out _ (gr_drewN HG1.out _))))
    go_wp2
    go_ret
    exact ⟨rfl, gr_drewN HG1.out _⟩
theorem sAverageCatch_any {v : Value} {xs : List Int} (r s n : Int) (w : World) (hv : Ints w v xs) :
    Calls Try.prog 22 #[.agg #[.int .i64 r, .int .i64 s, v, .int .i64 n]] w fun e w' => e = .returned (.int .i64 (avgV r s n xs)) ∧ Gr w w' none := by
  have HV := hid hv
  obtain ⟨_, a, cap, rfl, hcap, hmax, hat⟩ := hv
  clear hat
  cases hy : yearB r s xs n
  · rw [show avgV r s n xs = -1 from by simp [avgV, hy]]
    have HY := hid hy
    clear hy
    go_enter Try.func22, Try.ntmps22
    go_wp2_with fail
    refine (sYearOk_any _ _ _ _ (HV.out.on (gr_alloc (gr_refl _ _) _))).mono ?_
    rw [HY.out]
    rintro e w1 ⟨rfl, g1⟩
    go_wp2
    go_ret
    exact ⟨rfl, (by repeat (first | (with_reducible exact gr_refl _ _) | (with_reducible assumption) | (with_reducible refine gr_drew ?_) | (with_reducible refine gr_drewN ?_ _) | (with_reducible refine gr_alloc ?_ _) | (with_reducible refine gr_set ?_ (.inr (by simp; done)) _) | (with_reducible refine gr_set ?_ (.inr (by simp; omega)) _) | (with_reducible refine gr_then ?_ (by with_reducible assumption))))⟩
  · obtain ⟨-, -, hl, -, -⟩ := yearB_parts hy
    have HF := hid (fair_year hy)
    have bs := fair_sum (fair_year hy) (Nat.le_refl _)
    rw [show avgV r s n xs = sumTo xs xs.length / xs.length from by simp [avgV, hy]]
    have HY := hid hy
    have hl0 : ((xs.length : Int) == 0) = false := by have h9 : xs.length ≠ 0 := by omega
                                                      simpa using h9
    have hl1 : (0 : Int) < (xs.length : Int) := by omega
    have HQ : Hid (∀ W, Gr w W none → Calls Try.prog 57 #[.slice a xs.length cap] W fun e w' => e = .returned (.int .i64 (sumTo xs xs.length)) ∧ w' = W) := fun W hg => quiet_eq (l06Sum_any _ (HV.out.on hg) HF.out)
    generalize hS : sumTo xs xs.length = SS at *
    have hdv : SS.tdiv (xs.length : Int) = SS / (xs.length : Int) := Int.tdiv_eq_ediv_of_nonneg bs.1
    have hd0 : 0 ≤ SS / (xs.length : Int) := Int.ediv_nonneg bs.1 (by omega)
    have hd1 : SS / (xs.length : Int) ≤ SS := Int.ediv_le_self _ bs.1
    have hwr : IntKind.i64.wrap (SS / (xs.length : Int)) = SS / (xs.length : Int) := IntWalk.i64_in _ (by omega)
    clear hy hS
    go_enter Try.func22, Try.ntmps22
    go_wp2_with fail
    refine (sYearOk_any _ _ _ _ (HV.out.on (gr_alloc (gr_refl _ _) _))).mono ?_
    rw [HY.out]
    rintro e w1 ⟨rfl, g1⟩
    obtain ⟨p0, p1, p2, p3, lA⟩ := (yBox_new w 27 r s (.slice a xs.length cap) n).on g1
    have G1 := gr_then (gr_alloc (gr_refl w none) _) g1
    have HG1 := hid G1
    clear g1 G1
    go_wp2_with fail
    go_quiet ((go_at_call 57; exact Calls.quiet_of_same (HQ.out _ (gr_drewN HG1.out _))))
    go_wp2
    go_ret
    exact ⟨rfl, gr_drewN HG1.out _⟩
theorem isEnough_any {v : Value} {xs : List Int} (r s n : Int) (w : World) (hv : Ints w v xs) :
    Calls Try.prog 33 #[.agg #[.int .i64 r, .int .i64 s, v, .int .i64 n]] w fun e w' => e = .returned (.bool (enoughB r s n xs)) ∧ Gr w w' none := by
  have HV := hid hv
  obtain ⟨_, a, cap, rfl, hcap, hmax, hat⟩ := hv
  clear hat
  cases hy : yearB r s xs n
  · rw [show enoughB r s n xs = false from by simp [enoughB, hy]]
    have HY := hid hy
    clear hy
    go_enter Try.func33, Try.ntmps33
    go_wp2_with fail
    refine (yearOk_any _ _ _ _ (HV.out.on (gr_alloc (gr_refl _ _) _))).mono ?_
    rw [HY.out]
    rintro e w1 ⟨rfl, g1⟩
    go_wp2
    go_ret
    exact ⟨rfl, (by repeat (first | (with_reducible exact gr_refl _ _) | (with_reducible assumption) | (with_reducible refine gr_drew ?_) | (with_reducible refine gr_drewN ?_ _) | (with_reducible refine gr_alloc ?_ _) | (with_reducible refine gr_set ?_ (.inr (by simp; done)) _) | (with_reducible refine gr_set ?_ (.inr (by simp; omega)) _) | (with_reducible refine gr_then ?_ (by with_reducible assumption))))⟩
  · rw [show enoughB r s n xs = decide ((shortV r s n xs).length = 0) from by simp [enoughB, hy]]
    have HY := hid hy
    clear hy
    generalize hQ : shortV r s n xs = qs
    have HQ := hid hQ
    have hdb : decide (qs.length = 0) = ((qs.length : Int) == 0) := by
      by_cases h : qs.length = 0
      · simp [h]
      · simp [h]
    have HDB := hid hdb
    clear hQ hdb
    rw [HDB.out]
    go_enter Try.func33, Try.ntmps33
    go_wp2_with fail
    refine (yearOk_any _ _ _ _ (HV.out.on (gr_alloc (gr_refl _ _) _))).mono ?_
    rw [HY.out]
    rintro e w1 ⟨rfl, g1⟩
    obtain ⟨p0, p1, p2, p3, lA⟩ := (yBox_new w 27 r s (.slice a xs.length cap) n).on g1
    have HG1 := hid (gr_then (gr_alloc (gr_refl w none) _) g1)
    clear g1
    go_wp2_with fail
    refine (implShortDays_any _ _ _ _ (HV.out.on HG1.out)).mono ?_
    rw [HQ.out]
    rintro e w2 ⟨u, rfl, ou, g2⟩
    obtain ⟨ua, uc, rfl⟩ := sl_own ou.2
    have HG2 := hid (gr_then HG1.out g2)
    clear g2 ou
    go_wp2
    go_ret
    exact ⟨rfl, HG2.out⟩
theorem sIsEnough_any {v : Value} {xs : List Int} (r s n : Int) (w : World) (hv : Ints w v xs) :
    Calls Try.prog 32 #[.agg #[.int .i64 r, .int .i64 s, v, .int .i64 n]] w fun e w' => e = .returned (.bool (enoughB r s n xs)) ∧ Gr w w' none := by
  have HV := hid hv
  obtain ⟨_, a, cap, rfl, hcap, hmax, hat⟩ := hv
  clear hat
  cases hy : yearB r s xs n
  · rw [show enoughB r s n xs = false from by simp [enoughB, hy]]
    have HY := hid hy
    clear hy
    go_enter Try.func32, Try.ntmps32
    go_wp2_with fail
    refine (sYearOk_any _ _ _ _ (HV.out.on (gr_alloc (gr_refl _ _) _))).mono ?_
    rw [HY.out]
    rintro e w1 ⟨rfl, g1⟩
    go_wp2
    go_ret
    exact ⟨rfl, (by repeat (first | (with_reducible exact gr_refl _ _) | (with_reducible assumption) | (with_reducible refine gr_drew ?_) | (with_reducible refine gr_drewN ?_ _) | (with_reducible refine gr_alloc ?_ _) | (with_reducible refine gr_set ?_ (.inr (by simp; done)) _) | (with_reducible refine gr_set ?_ (.inr (by simp; omega)) _) | (with_reducible refine gr_then ?_ (by with_reducible assumption))))⟩
  · rw [show enoughB r s n xs = decide ((shortV r s n xs).length = 0) from by simp [enoughB, hy]]
    have HY := hid hy
    clear hy
    generalize hQ : shortV r s n xs = qs
    have HQ := hid hQ
    have hdb : decide (qs.length = 0) = ((qs.length : Int) == 0) := by
      by_cases h : qs.length = 0
      · simp [h]
      · simp [h]
    have HDB := hid hdb
    clear hQ hdb
    rw [HDB.out]
    go_enter Try.func32, Try.ntmps32
    go_wp2_with fail
    refine (sYearOk_any _ _ _ _ (HV.out.on (gr_alloc (gr_refl _ _) _))).mono ?_
    rw [HY.out]
    rintro e w1 ⟨rfl, g1⟩
    obtain ⟨p0, p1, p2, p3, lA⟩ := (yBox_new w 27 r s (.slice a xs.length cap) n).on g1
    have HG1 := hid (gr_then (gr_alloc (gr_refl w none) _) g1)
    clear g1
    go_wp2_with fail
    refine (sShortDays_any _ _ _ _ (HV.out.on HG1.out)).mono ?_
    rw [HQ.out]
    rintro e w2 ⟨u, rfl, ou, g2⟩
    obtain ⟨ua, uc, rfl⟩ := sl_own ou.2
    have HG2 := hid (gr_then HG1.out g2)
    clear g2 ou
    go_wp2
    go_ret
    exact ⟨rfl, HG2.out⟩
end Go.Proofs.Ytmnfainepmnpeaa
