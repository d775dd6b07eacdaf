/- A year with another need, start or room. -/
import Derived.Test.YtmnfainepmnpeaaYWith
import Derived.Deep.DeepCutAuto
namespace Go.Proofs.Ytmnfainepmnpeaa
open Go.RowKit

theorem cells4 {w : World} {B : Nat} {T : TypeId} {x0 x1 x2 x3 : Value} (h : Blk w B #[x0, x1, x2, x3] T) : w.cell? ⟨B, 0, none⟩ = some x0 ∧ w.cell? ⟨B, 1, none⟩ = some x1 ∧ w.cell? ⟨B, 2, none⟩ = some x2 ∧ w.cell? ⟨B, 3, none⟩ = some x3 ∧ w.frozen? ⟨B, 0, none⟩ = false ∧ w.frozen? ⟨B, 1, none⟩ = false ∧ w.frozen? ⟨B, 2, none⟩ = false ∧ w.frozen? ⟨B, 3, none⟩ = false := by
  have m0 := Go.Joins.cell_of_block h 0
  have m1 := Go.Joins.cell_of_block h 1
  have m2 := Go.Joins.cell_of_block h 2
  have m3 := Go.Joins.cell_of_block h 3
  simp only [List.getElem?_toArray, List.getElem?_cons_zero, List.getElem?_cons_succ] at m0 m1 m2 m3
  exact ⟨m0, m1, m2, m3, Go.Joins.unfrozen_of_block h 0, Go.Joins.unfrozen_of_block h 1, Go.Joins.unfrozen_of_block h 2, Go.Joins.unfrozen_of_block h 3⟩
theorem gr4 {w a : World} {B : Nat} {x0 x1 x2 x3 : Value} (h : Gr w a none) (hB : w.heap.size ≤ B) : Gr w ((((a.setCell ⟨B, 0, none⟩ x0).setCell ⟨B, 1, none⟩ x1).setCell ⟨B, 2, none⟩ x2).setCell ⟨B, 3, none⟩ x3) none :=
  gr_set (gr_set (gr_set (gr_set h (.inr hB) _) (.inr hB) _) (.inr hB) _) (.inr hB) _
theorem own4 {E : TypeId} {a : World} {B C : Nat} {u x0 x1 x2 x3 : Value} {xs : List Int} (h : OwnI E a C u xs) (hB : B < C) : OwnI E ((((a.setCell ⟨B, 0, none⟩ x0).setCell ⟨B, 1, none⟩ x1).setCell ⟨B, 2, none⟩ x2).setCell ⟨B, 3, none⟩ x3) C u xs :=
  (((h.set hB _).set hB _).set hB _).set hB _

theorem withNeed_any {v : Value} {xs : List Int} (r s n m : Int) (w : World) (hv : Ints w v xs) (hl : xs.length ≤ 1048576) :
    Calls Try.prog 74 #[.agg #[.int .i64 r, .int .i64 s, v, .int .i64 n], .int .i64 m] w (RetY 3 w r s xs m) := by
  have HV := hid hv
  obtain ⟨_, a, cap, rfl, _, _, hat⟩ := hv
  clear hat
  go_enter Try.func74, Try.ntmps74
  go_wp2_with fail
  have RB := hid (show Blk ((w.alloc (.cells #[.int .i64 r, .int .i64 s, .slice a xs.length cap, .int .i64 n] 27)).alloc (.cells #[.int .i64 0, .int .i64 0, .slice none 0 0, .int .i64 0] 27)) (w.heap.size + 1) #[.int .i64 0, .int .i64 0, .slice none 0 0, .int .i64 0] 27 by have := blk_new (w.alloc (.cells #[.int .i64 r, .int .i64 s, .slice a xs.length cap, .int .i64 n] 27)) #[.int .i64 0, .int .i64 0, .slice none 0 0, .int .i64 0] 27; simpa using this)
  refine (l07Copy_any _ _ _ _ (HV.out.on (by repeat (first | (with_reducible exact gr_refl _ _) | (with_reducible assumption) | (with_reducible refine gr_drew ?_) | (with_reducible refine gr_drewN ?_ _) | (with_reducible refine gr_alloc ?_ _) | (with_reducible refine gr_set ?_ (.inr (by simp; done)) _) | (with_reducible refine gr_set ?_ (.inr (by simp; omega)) _) | (with_reducible refine gr_then ?_ (by with_reducible assumption))))) hl).mono ?_
  rintro e w1 ⟨u, rfl, ou, g1⟩
  obtain ⟨ua, uc, rfl⟩ := sl_own ou.2
  have z1 := gr_le g1
  simp only [World.size_alloc] at z1 ou
  have R1 := hid (RB.out.on g1)
  have G1 := hid (gr_then (gr_alloc (gr_alloc (gr_refl w none) _) _) g1)
  have O1 := hid ou
  obtain ⟨t0, t1, t2, t3, q0, q1, q2, q3⟩ := cells4 R1.out
  have l1 : w.heap.size < w1.heap.size := by omega
  have l2 : w.heap.size + 1 < w1.heap.size := by omega
  clear g1 ou RB
  go_wp2
  have bF : Blk ((((((w1.setCell ⟨w.heap.size + 1, 0, none⟩ (.int .i64 r)).setCell ⟨w.heap.size + 1, 1, none⟩ (.int .i64 s)).setCell ⟨w.heap.size + 1, 2, none⟩ (.slice ua xs.length uc)).setCell ⟨w.heap.size + 1, 3, none⟩ (.int .i64 m)).alloc (.cells #[.int .i64 r, .int .i64 s, .slice ua xs.length uc, .int .i64 m] 27))) (w.heap.size + 1) #[.int .i64 r, .int .i64 s, .slice ua xs.length uc, .int .i64 m] 27 := Blk.on (blk4_set R1.out) (gr_alloc (gr_refl _ _) _)
  obtain ⟨m0, m1, m2, m3, -⟩ := cells4 bF
  exact bodyPost_ret (v := .agg #[.int .i64 r, .int .i64 s, .slice ua xs.length uc, .int .i64 m]) (by simp [results, Try.results74, go_sem, m0, m1, m2, m3]) rfl ⟨_, rfl, OwnI.mono ((own4 (B := w.heap.size + 1) O1.out (by omega)).on (gr_alloc (gr_refl _ _) _)) (by omega), gr_alloc (gr4 G1.out (by omega)) _⟩
theorem withStart_any {v : Value} {xs : List Int} (r s n m : Int) (w : World) (hv : Ints w v xs) (hl : xs.length ≤ 1048576) :
    Calls Try.prog 75 #[.agg #[.int .i64 r, .int .i64 s, v, .int .i64 n], .int .i64 m] w (RetY 3 w r m xs n) := by
  have HV := hid hv
  obtain ⟨_, a, cap, rfl, _, _, hat⟩ := hv
  clear hat
  go_enter Try.func75, Try.ntmps75
  go_wp2_with fail
  have RB := hid (show Blk ((w.alloc (.cells #[.int .i64 r, .int .i64 s, .slice a xs.length cap, .int .i64 n] 27)).alloc (.cells #[.int .i64 0, .int .i64 0, .slice none 0 0, .int .i64 0] 27)) (w.heap.size + 1) #[.int .i64 0, .int .i64 0, .slice none 0 0, .int .i64 0] 27 by have := blk_new (w.alloc (.cells #[.int .i64 r, .int .i64 s, .slice a xs.length cap, .int .i64 n] 27)) #[.int .i64 0, .int .i64 0, .slice none 0 0, .int .i64 0] 27; simpa using this)
  refine (l07Copy_any _ _ _ _ (HV.out.on (by repeat (first | (with_reducible exact gr_refl _ _) | (with_reducible assumption) | (with_reducible refine gr_drew ?_) | (with_reducible refine gr_drewN ?_ _) | (with_reducible refine gr_alloc ?_ _) | (with_reducible refine gr_set ?_ (.inr (by simp; done)) _) | (with_reducible refine gr_set ?_ (.inr (by simp; omega)) _) | (with_reducible refine gr_then ?_ (by with_reducible assumption))))) hl).mono ?_
  rintro e w1 ⟨u, rfl, ou, g1⟩
  obtain ⟨ua, uc, rfl⟩ := sl_own ou.2
  have z1 := gr_le g1
  simp only [World.size_alloc] at z1 ou
  have R1 := hid (RB.out.on g1)
  have G1 := hid (gr_then (gr_alloc (gr_alloc (gr_refl w none) _) _) g1)
  have O1 := hid ou
  obtain ⟨t0, t1, t2, t3, q0, q1, q2, q3⟩ := cells4 R1.out
  have l1 : w.heap.size < w1.heap.size := by omega
  have l2 : w.heap.size + 1 < w1.heap.size := by omega
  clear g1 ou RB
  go_wp2
  have bF : Blk ((((((w1.setCell ⟨w.heap.size + 1, 0, none⟩ (.int .i64 r)).setCell ⟨w.heap.size + 1, 1, none⟩ (.int .i64 m)).setCell ⟨w.heap.size + 1, 2, none⟩ (.slice ua xs.length uc)).setCell ⟨w.heap.size + 1, 3, none⟩ (.int .i64 n)).alloc (.cells #[.int .i64 r, .int .i64 m, .slice ua xs.length uc, .int .i64 n] 27))) (w.heap.size + 1) #[.int .i64 r, .int .i64 m, .slice ua xs.length uc, .int .i64 n] 27 := Blk.on (blk4_set R1.out) (gr_alloc (gr_refl _ _) _)
  obtain ⟨m0, m1, m2, m3, -⟩ := cells4 bF
  exact bodyPost_ret (v := .agg #[.int .i64 r, .int .i64 m, .slice ua xs.length uc, .int .i64 n]) (by simp [results, Try.results75, go_sem, m0, m1, m2, m3]) rfl ⟨_, rfl, OwnI.mono ((own4 (B := w.heap.size + 1) O1.out (by omega)).on (gr_alloc (gr_refl _ _) _)) (by omega), gr_alloc (gr4 G1.out (by omega)) _⟩
end Go.Proofs.Ytmnfainepmnpeaa
