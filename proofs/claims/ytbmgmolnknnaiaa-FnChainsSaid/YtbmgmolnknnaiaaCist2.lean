/- Pouring into a cistern, taking out of it. -/
import Derived.Test.YtbmgmolnknnaiaaCist1
namespace Go.Proofs.Ytbmgmolnknnaiaa
open Go.RowKit

theorem set_same {w : World} {p : Addr} {u v : Value} (h : w.cell? p = some u) : (w.setCell p v).cell? p = some v := World.cell?_setCell_same _ _ _ h
theorem set_other {w : World} {p q : Addr} {u v : Value} (hn : q ≠ p) (h : w.cell? p = some u) : (w.setCell q v).cell? p = some u := (World.cell?_setCell_other _ _ _ _ hn).trans h
theorem l04Water_any (n : Int) (w : World) :
    Calls Try.prog 28 #[.int .i64 n] w fun e w' => e = .returned (.bool (inB n 0 1000000)) ∧ w = w' := by
  go_enter Try.func28, Try.ntmps28
  go_wp2_with (go_at_call 36; refine (l01In_any _ _ _ _).mono ?_; rintro e w' ⟨rfl, rfl⟩)
  go_ret
  exact ⟨rfl, rfl⟩
def pourOk (r l x : Int) : Bool := cistB r l && inB x 0 1000000
/-- The level and the water that runs over, behind a pouring. -/
def pourL (r l x : Int) : Int := if pourOk r l x then (if r - l < x then r else l + x) else l
def pourO (r l x : Int) : Int := if pourOk r l x then (if r - l < x then x - (r - l) else 0) else -1
theorem pourOk_true {r l x : Int} (h : pourOk r l x = true) : ((1 ≤ r ∧ r ≤ 1000000) ∧ 0 ≤ l ∧ l ≤ r) ∧ 0 ≤ x ∧ x ≤ 1000000 := by
  simp only [pourOk, Bool.and_eq_true] at h
  exact ⟨cistB_true h.1, inB_true h.2⟩
theorem within0_any (n : Int) (w : World) :
    Calls Try.prog 29 #[.int .i64 n, .int .i64 0, .int .i64 1000000] w fun e w' => e = .returned (.bool (inB n 0 1000000)) ∧ w = w' := within_any n 0 1000000 w
theorem pour_any (r l x : Int) (w : World) :
    Calls Try.prog 13 #[.agg #[.int .i64 r, .int .i64 l], .int .i64 x] w fun e w' => e = .returned (.tuple #[.agg #[.int .i64 r, .int .i64 (pourL r l x)], .int .i64 (pourO r l x)]) ∧ Gr w w' none := by
  cases hb : cistB r l
  · have e1 : pourOk r l x = false := by rw [pourOk, hb]; rfl
    have e2 : pourL r l x = l := by rw [pourL, e1]; rfl
    have e3 : pourO r l x = -1 := by rw [pourO, e1]; rfl
    rw [e2, e3]
    clear e1 e2 e3
    go_enter Try.func13, Try.ntmps13
    go_wp2_with fail
    refine (cisternOk_any _ _ _).mono ?_
    rintro e w1 ⟨rfl, g1'⟩
    have g1 := g1'
    clear g1'
    have c1 := gr_cell g1
    have f1 := gr_frozen g1
    go_wp2
    refine bodyPost_ret (v := .tuple #[.agg #[.int .i64 r, .int .i64 l], .int .i64 (-1)]) (by simp [results, Try.results13, go_sem, c1]) rfl ⟨rfl, (by repeat (first | (with_reducible exact gr_refl _ _) | (with_reducible assumption) | (with_reducible refine gr_drew ?_) | (with_reducible refine gr_drewN ?_ _) | (with_reducible refine gr_alloc ?_ _) | (with_reducible refine gr_set ?_ (.inr (by simp; done)) _) | (with_reducible refine gr_set ?_ (.inr (by simp; omega)) _) | (with_reducible refine gr_then ?_ (by with_reducible assumption))))⟩
  cases hx : inB x 0 1000000
  · have e1 : pourOk r l x = false := by rw [pourOk, hb, hx]; rfl
    have e2 : pourL r l x = l := by rw [pourL, e1]; rfl
    have e3 : pourO r l x = -1 := by rw [pourO, e1]; rfl
    rw [e2, e3]
    clear e1 e2 e3
    go_enter Try.func13, Try.ntmps13
    go_wp2_with fail
    refine (cisternOk_any _ _ _).mono ?_
    rintro e w1 ⟨rfl, g1'⟩
    have g1 := g1'
    clear g1'
    have c1 := gr_cell g1
    have f1 := gr_frozen g1
    go_wp2_with fail
    refine (within0_any _ _).mono ?_
    rintro e w' ⟨rfl, rfl⟩
    go_wp2
    refine bodyPost_ret (v := .tuple #[.agg #[.int .i64 r, .int .i64 l], .int .i64 (-1)]) (by simp [results, Try.results13, go_sem, c1]) rfl ⟨rfl, (by repeat (first | (with_reducible exact gr_refl _ _) | (with_reducible assumption) | (with_reducible refine gr_drew ?_) | (with_reducible refine gr_drewN ?_ _) | (with_reducible refine gr_alloc ?_ _) | (with_reducible refine gr_set ?_ (.inr (by simp; done)) _) | (with_reducible refine gr_set ?_ (.inr (by simp; omega)) _) | (with_reducible refine gr_then ?_ (by with_reducible assumption))))⟩
  · obtain ⟨⟨b1, b2⟩, b3, b4⟩ := cistB_true hb
    obtain ⟨b5, b6⟩ := inB_true hx
    have e1 : pourOk r l x = true := by rw [pourOk, hb, hx]; rfl
    by_cases hlt : r - l < x
    · have e2 : pourL r l x = r := by rw [pourL, e1, if_pos hlt]; rfl
      have e3 : pourO r l x = x - (r - l) := by rw [pourO, e1, if_pos hlt]; rfl
      rw [e2, e3]
      have e4 : l + (r - l) = r := by omega
      clear e1 e2 e3
      go_enter Try.func13, Try.ntmps13
      go_wp2_with fail
      refine (cisternOk_any _ _ _).mono ?_
      rintro e w1 ⟨rfl, g1'⟩
      have g1 := g1'
      clear g1'
      have c1 := gr_cell g1
      have f1 := gr_frozen g1
      have k1 := set_same (v := .int .i64 r) (show w1.cell? ⟨w.heap.size, 1, none⟩ = some (.int .i64 l) from by rw [c1 _ _ (by simp; omega)]; simp [go_sem])
      have k0 := set_other (v := .int .i64 r) (q := ⟨w.heap.size, 1, none⟩) (by simp) (show w1.cell? ⟨w.heap.size, 0, none⟩ = some (.int .i64 r) from by rw [c1 _ _ (by simp; omega)]; simp [go_sem])
      go_wp2_with fail
      refine (within0_any _ _).mono ?_
      rintro e w' ⟨rfl, rfl⟩
      go_wp2
      refine bodyPost_ret (v := .tuple #[.agg #[.int .i64 r, .int .i64 r], .int .i64 (x - (r - l))]) (by simp [results, Try.results13, go_sem, c1]) rfl ⟨rfl, (by repeat (first | (with_reducible exact gr_refl _ _) | (with_reducible assumption) | (with_reducible refine gr_drew ?_) | (with_reducible refine gr_drewN ?_ _) | (with_reducible refine gr_alloc ?_ _) | (with_reducible refine gr_set ?_ (.inr (by simp; done)) _) | (with_reducible refine gr_set ?_ (.inr (by simp; omega)) _) | (with_reducible refine gr_then ?_ (by with_reducible assumption))))⟩
    · have e2 : pourL r l x = l + x := by rw [pourL, e1, if_neg hlt]; rfl
      have e3 : pourO r l x = 0 := by rw [pourO, e1, if_neg hlt]; rfl
      rw [e2, e3]
      clear e1 e2 e3
      go_enter Try.func13, Try.ntmps13
      go_wp2_with fail
      refine (cisternOk_any _ _ _).mono ?_
      rintro e w1 ⟨rfl, g1'⟩
      have g1 := g1'
      clear g1'
      have c1 := gr_cell g1
      have f1 := gr_frozen g1
      have k1 := set_same (v := .int .i64 (l + x)) (show w1.cell? ⟨w.heap.size, 1, none⟩ = some (.int .i64 l) from by rw [c1 _ _ (by simp; omega)]; simp [go_sem])
      have k0 := set_other (v := .int .i64 (l + x)) (q := ⟨w.heap.size, 1, none⟩) (by simp) (show w1.cell? ⟨w.heap.size, 0, none⟩ = some (.int .i64 r) from by rw [c1 _ _ (by simp; omega)]; simp [go_sem])
      go_wp2_with fail
      refine (within0_any _ _).mono ?_
      rintro e w' ⟨rfl, rfl⟩
      go_wp2
      refine bodyPost_ret (v := .tuple #[.agg #[.int .i64 r, .int .i64 (l + x)], .int .i64 0]) (by simp [results, Try.results13, go_sem, c1]) rfl ⟨rfl, (by repeat (first | (with_reducible exact gr_refl _ _) | (with_reducible assumption) | (with_reducible refine gr_drew ?_) | (with_reducible refine gr_drewN ?_ _) | (with_reducible refine gr_alloc ?_ _) | (with_reducible refine gr_set ?_ (.inr (by simp; done)) _) | (with_reducible refine gr_set ?_ (.inr (by simp; omega)) _) | (with_reducible refine gr_then ?_ (by with_reducible assumption))))⟩
/-- The level and the water that is drawn, behind a drawing. -/
def takeL (r l x : Int) : Int := if pourOk r l x then (if l < x then 0 else l - x) else l
def takeO (r l x : Int) : Int := if pourOk r l x then (if l < x then l else x) else -1
theorem takeOut_any (r l x : Int) (w : World) :
    Calls Try.prog 14 #[.agg #[.int .i64 r, .int .i64 l], .int .i64 x] w fun e w' => e = .returned (.tuple #[.agg #[.int .i64 r, .int .i64 (takeL r l x)], .int .i64 (takeO r l x)]) ∧ Gr w w' none := by
  cases hb : cistB r l
  · have e1 : pourOk r l x = false := by rw [pourOk, hb]; rfl
    have e2 : takeL r l x = l := by rw [takeL, e1]; rfl
    have e3 : takeO r l x = -1 := by rw [takeO, e1]; rfl
    rw [e2, e3]
    clear e1 e2 e3
    go_enter Try.func14, Try.ntmps14
    go_wp2_with fail
    refine (cisternOk_any _ _ _).mono ?_
    rintro e w1 ⟨rfl, g1'⟩
    have g1 := g1'
    clear g1'
    have c1 := gr_cell g1
    have f1 := gr_frozen g1
    go_wp2
    refine bodyPost_ret (v := .tuple #[.agg #[.int .i64 r, .int .i64 l], .int .i64 (-1)]) (by simp [results, Try.results14, go_sem, c1]) rfl ⟨rfl, (by repeat (first | (with_reducible exact gr_refl _ _) | (with_reducible assumption) | (with_reducible refine gr_drew ?_) | (with_reducible refine gr_drewN ?_ _) | (with_reducible refine gr_alloc ?_ _) | (with_reducible refine gr_set ?_ (.inr (by simp; done)) _) | (with_reducible refine gr_set ?_ (.inr (by simp; omega)) _) | (with_reducible refine gr_then ?_ (by with_reducible assumption))))⟩
  cases hx : inB x 0 1000000
  · have e1 : pourOk r l x = false := by rw [pourOk, hb, hx]; rfl
    have e2 : takeL r l x = l := by rw [takeL, e1]; rfl
    have e3 : takeO r l x = -1 := by rw [takeO, e1]; rfl
    rw [e2, e3]
    clear e1 e2 e3
    go_enter Try.func14, Try.ntmps14
    go_wp2_with fail
    refine (cisternOk_any _ _ _).mono ?_
    rintro e w1 ⟨rfl, g1'⟩
    have g1 := g1'
    clear g1'
    have c1 := gr_cell g1
    have f1 := gr_frozen g1
    go_wp2_with fail
    refine (within0_any _ _).mono ?_
    rintro e w' ⟨rfl, rfl⟩
    go_wp2
    refine bodyPost_ret (v := .tuple #[.agg #[.int .i64 r, .int .i64 l], .int .i64 (-1)]) (by simp [results, Try.results14, go_sem, c1]) rfl ⟨rfl, (by repeat (first | (with_reducible exact gr_refl _ _) | (with_reducible assumption) | (with_reducible refine gr_drew ?_) | (with_reducible refine gr_drewN ?_ _) | (with_reducible refine gr_alloc ?_ _) | (with_reducible refine gr_set ?_ (.inr (by simp; done)) _) | (with_reducible refine gr_set ?_ (.inr (by simp; omega)) _) | (with_reducible refine gr_then ?_ (by with_reducible assumption))))⟩
  · obtain ⟨⟨b1, b2⟩, b3, b4⟩ := cistB_true hb
    obtain ⟨b5, b6⟩ := inB_true hx
    have e1 : pourOk r l x = true := by rw [pourOk, hb, hx]; rfl
    by_cases hlt : l < x
    · have e2 : takeL r l x = 0 := by rw [takeL, e1, if_pos hlt]; rfl
      have e3 : takeO r l x = l := by rw [takeO, e1, if_pos hlt]; rfl
      rw [e2, e3]
      clear e1 e2 e3
      go_enter Try.func14, Try.ntmps14
      go_wp2_with fail
      refine (cisternOk_any _ _ _).mono ?_
      rintro e w1 ⟨rfl, g1'⟩
      have g1 := g1'
      clear g1'
      have c1 := gr_cell g1
      have f1 := gr_frozen g1
      have k1 := set_same (v := .int .i64 0) (show w1.cell? ⟨w.heap.size, 1, none⟩ = some (.int .i64 l) from by rw [c1 _ _ (by simp; omega)]; simp [go_sem])
      have k0 := set_other (v := .int .i64 0) (q := ⟨w.heap.size, 1, none⟩) (by simp) (show w1.cell? ⟨w.heap.size, 0, none⟩ = some (.int .i64 r) from by rw [c1 _ _ (by simp; omega)]; simp [go_sem])
      go_wp2_with fail
      refine (within0_any _ _).mono ?_
      rintro e w' ⟨rfl, rfl⟩
      go_wp2
      refine bodyPost_ret (v := .tuple #[.agg #[.int .i64 r, .int .i64 0], .int .i64 l]) (by simp [results, Try.results14, go_sem, c1]) rfl ⟨rfl, (by repeat (first | (with_reducible exact gr_refl _ _) | (with_reducible assumption) | (with_reducible refine gr_drew ?_) | (with_reducible refine gr_drewN ?_ _) | (with_reducible refine gr_alloc ?_ _) | (with_reducible refine gr_set ?_ (.inr (by simp; done)) _) | (with_reducible refine gr_set ?_ (.inr (by simp; omega)) _) | (with_reducible refine gr_then ?_ (by with_reducible assumption))))⟩
    · have e2 : takeL r l x = l - x := by rw [takeL, e1, if_neg hlt]; rfl
      have e3 : takeO r l x = x := by rw [takeO, e1, if_neg hlt]; rfl
      rw [e2, e3]
      clear e1 e2 e3
      go_enter Try.func14, Try.ntmps14
      go_wp2_with fail
      refine (cisternOk_any _ _ _).mono ?_
      rintro e w1 ⟨rfl, g1'⟩
      have g1 := g1'
      clear g1'
      have c1 := gr_cell g1
      have f1 := gr_frozen g1
      have k1 := set_same (v := .int .i64 (l - x)) (show w1.cell? ⟨w.heap.size, 1, none⟩ = some (.int .i64 l) from by rw [c1 _ _ (by simp; omega)]; simp [go_sem])
      have k0 := set_other (v := .int .i64 (l - x)) (q := ⟨w.heap.size, 1, none⟩) (by simp) (show w1.cell? ⟨w.heap.size, 0, none⟩ = some (.int .i64 r) from by rw [c1 _ _ (by simp; omega)]; simp [go_sem])
      go_wp2_with fail
      refine (within0_any _ _).mono ?_
      rintro e w' ⟨rfl, rfl⟩
      go_wp2
      refine bodyPost_ret (v := .tuple #[.agg #[.int .i64 r, .int .i64 (l - x)], .int .i64 x]) (by simp [results, Try.results14, go_sem, c1]) rfl ⟨rfl, (by repeat (first | (with_reducible exact gr_refl _ _) | (with_reducible assumption) | (with_reducible refine gr_drew ?_) | (with_reducible refine gr_drewN ?_ _) | (with_reducible refine gr_alloc ?_ _) | (with_reducible refine gr_set ?_ (.inr (by simp; done)) _) | (with_reducible refine gr_set ?_ (.inr (by simp; omega)) _) | (with_reducible refine gr_then ?_ (by with_reducible assumption))))⟩
/-- Whether two cisterns are equal. -/
def eqCB (a p b q : Int) : Bool := decide (a = b) && decide (p = q)
theorem eqCB_same (a p : Int) : eqCB a p a p = true := by simp [eqCB]
theorem eqCistern_any (a p b q : Int) (w : World) :
    Calls Try.prog 9 #[.agg #[.int .i64 a, .int .i64 p], .agg #[.int .i64 b, .int .i64 q]] w fun e w' => e = .returned (.bool (eqCB a p b q)) ∧ Gr w w' none := by
  by_cases h1 : a = b
  · by_cases h2 : p = q
    · subst h1; subst h2
      go_enter Try.func9, Try.ntmps9
      go_wp2
      go_ret
      exact ⟨ret_bool (by simp [eqCB]), (by repeat (first | (with_reducible exact gr_refl _ _) | (with_reducible assumption) | (with_reducible refine gr_drew ?_) | (with_reducible refine gr_drewN ?_ _) | (with_reducible refine gr_alloc ?_ _) | (with_reducible refine gr_set ?_ (.inr (by simp; done)) _) | (with_reducible refine gr_set ?_ (.inr (by simp; omega)) _) | (with_reducible refine gr_then ?_ (by with_reducible assumption))))⟩
    · have hb : (p != q) = true := by simp [h2]
      have e1 : eqCB a p b q = false := by simp [eqCB, h2]
      have E1 := hid e1
      subst h1
      clear e1
      go_enter Try.func9, Try.ntmps9
      go_wp2
      go_ret
      exact ⟨ret_bool E1.out.symm, (by repeat (first | (with_reducible exact gr_refl _ _) | (with_reducible assumption) | (with_reducible refine gr_drew ?_) | (with_reducible refine gr_drewN ?_ _) | (with_reducible refine gr_alloc ?_ _) | (with_reducible refine gr_set ?_ (.inr (by simp; done)) _) | (with_reducible refine gr_set ?_ (.inr (by simp; omega)) _) | (with_reducible refine gr_then ?_ (by with_reducible assumption))))⟩
  · have hb : (a != b) = true := by simp [h1]
    have e1 : eqCB a p b q = false := by simp [eqCB, h1]
    have E1 := hid e1
    clear e1
    go_enter Try.func9, Try.ntmps9
    go_wp2
    go_ret
    exact ⟨ret_bool E1.out.symm, (by repeat (first | (with_reducible exact gr_refl _ _) | (with_reducible assumption) | (with_reducible refine gr_drew ?_) | (with_reducible refine gr_drewN ?_ _) | (with_reducible refine gr_alloc ?_ _) | (with_reducible refine gr_set ?_ (.inr (by simp; done)) _) | (with_reducible refine gr_set ?_ (.inr (by simp; omega)) _) | (with_reducible refine gr_then ?_ (by with_reducible assumption))))⟩
end Go.Proofs.Ytbmgmolnknnaiaa
