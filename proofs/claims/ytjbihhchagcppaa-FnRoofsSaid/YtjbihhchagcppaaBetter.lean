/- The better of two roofs. -/
import Derived.Test.YtjbihhchagcppaaRoof1
import Derived.Deep.RegionHeld3
namespace Go.Proofs.Ytjbihhchagcppaa
open Go.RowKit

theorem cell_on {a b : World} (hg : Gr a b none) {p : Addr} {v : Value} (h : a.cell? p = some v) : b.cell? p = some v := World.grownBy.cell hg h (by simp)
theorem held2 {w a b : World} {p q r s : Addr} {x y z u : Value} (h : a.cell? p = some x ∧ a.cell? q = some y ∧ a.cell? r = some z ∧ a.cell? s = some u ∧ Gr w a none) (hg : Gr a b none) :
    b.cell? p = some x ∧ b.cell? q = some y ∧ b.cell? r = some z ∧ b.cell? s = some u ∧ Gr w b none :=
  ⟨cell_on hg h.1, cell_on hg h.2.1, cell_on hg h.2.2.1, cell_on hg h.2.2.2.1, gr_then h.2.2.2.2 hg⟩
def cmpV (x y : Int) : Int := if x < y then -1 else if y < x then 1 else 0
theorem cmp_any (x y : Int) (w : World) : Calls Try.prog 22 #[.int .i64 x, .int .i64 y] w fun e w' => e = .returned (.int .i64 (cmpV x y)) ∧ w = w' := by
  unfold cmpV
  by_cases h1 : x < y
  · rw [if_pos h1]
    go_enter Try.func22, Try.ntmps22
    go_wp2
    go_ret
    exact ⟨rfl, rfl⟩
  · rw [if_neg h1]
    by_cases h2 : y < x
    · rw [if_pos h2]
      go_enter Try.func22, Try.ntmps22
      go_wp2
      go_ret
      exact ⟨rfl, rfl⟩
    · rw [if_neg h2]
      go_enter Try.func22, Try.ntmps22
      go_wp2
      go_ret
      exact ⟨rfl, rfl⟩
def betterV (a p b q : Int) : Int := if roofB a p && roofB b q then cmpV (b * q) (a * p) else 0
theorem roof_mul {a p : Int} (h : roofB a p = true) : 0 ≤ a * p ∧ a * p ≤ 100000 := by
  obtain ⟨⟨h1, h2⟩, h3, h4⟩ := roofB_true h
  exact mul_bd (A := 1000) (R := 100) (by omega) h2 h3 h4
theorem betterRoof_any (a p b q : Int) (w : World) :
    Calls Try.prog 13 #[.agg #[.int .i64 a, .int .i64 p], .agg #[.int .i64 b, .int .i64 q]] w fun e w' => e = .returned (.int .i64 (betterV a p b q)) ∧ Gr w w' none := by
  unfold betterV
  cases h1 : roofB a p
  · go_enter Try.func13, Try.ntmps13
    go_wp2_with fail
    refine (roofOk_any _ _ _).mono ?_
    rintro e w1 ⟨rfl, g1'⟩
    have g1 := g1'
    clear g1'
    have c1 := gr_cell g1
    go_wp2
    go_ret
    exact ⟨rfl, (by repeat (first | (with_reducible exact gr_refl _ _) | (with_reducible assumption) | (with_reducible refine gr_drew ?_) | (with_reducible refine gr_drewN ?_ _) | (with_reducible refine gr_alloc ?_ _) | (with_reducible refine gr_set ?_ (.inr (by simp; done)) _) | (with_reducible refine gr_set ?_ (.inr (by simp; omega)) _) | (with_reducible refine gr_then ?_ (by with_reducible assumption))))⟩
  cases h2 : roofB b q
  · go_enter Try.func13, Try.ntmps13
    go_wp2_with fail
    refine (roofOk_any _ _ _).mono ?_
    rintro e w1 ⟨rfl, g1'⟩
    have g1 := g1'
    clear g1'
    have c1 := gr_cell g1
    go_wp2_with fail
    refine (roofOk_any _ _ _).mono ?_
    rintro e w2 ⟨rfl, g2'⟩
    have g2 := gr_then g1 g2'
    clear g2'
    have c2 := gr_cell g2
    go_wp2
    go_ret
    exact ⟨rfl, (by repeat (first | (with_reducible exact gr_refl _ _) | (with_reducible assumption) | (with_reducible refine gr_drew ?_) | (with_reducible refine gr_drewN ?_ _) | (with_reducible refine gr_alloc ?_ _) | (with_reducible refine gr_set ?_ (.inr (by simp; done)) _) | (with_reducible refine gr_set ?_ (.inr (by simp; omega)) _) | (with_reducible refine gr_then ?_ (by with_reducible assumption))))⟩
  · obtain ⟨m1, m2⟩ := roof_mul h1
    obtain ⟨m3, m4⟩ := roof_mul h2
    go_enter Try.func13, Try.ntmps13
    go_wp2_with fail
    refine (roofOk_any _ _ _).mono ?_
    rintro e w1 ⟨rfl, g1'⟩
    have g1 := g1'
    clear g1'
    have c1 := gr_cell g1
    go_wp2_with fail
    refine (roofOk_any _ _ _).mono ?_
    rintro e w2 ⟨rfl, g2'⟩
    have g2 := gr_then g1 g2'
    clear g2'
    have c2 := gr_cell g2
    go_wp2_with fail
    refine (cmp_any _ _ _).mono ?_
    rintro e w' ⟨rfl, rfl⟩
    go_wp2
    go_ret
    exact ⟨rfl, (by repeat (first | (with_reducible exact gr_refl _ _) | (with_reducible assumption) | (with_reducible refine gr_drew ?_) | (with_reducible refine gr_drewN ?_ _) | (with_reducible refine gr_alloc ?_ _) | (with_reducible refine gr_set ?_ (.inr (by simp; done)) _) | (with_reducible refine gr_set ?_ (.inr (by simp; omega)) _) | (with_reducible refine gr_then ?_ (by with_reducible assumption))))⟩
end Go.Proofs.Ytjbihhchagcppaa
