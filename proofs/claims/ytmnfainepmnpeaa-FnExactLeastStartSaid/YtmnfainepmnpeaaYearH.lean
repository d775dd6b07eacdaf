/- What the laws over a year have in common. -/
import Derived.Test.YtmnfainepmnpeaaYear
namespace Go.Proofs.Ytmnfainepmnpeaa
open Go.RowKit

theorem heldY {w a b : World} {B1 B2 : Nat} {x0 x1 x2 x3 y0 y1 y2 y3 : Value}
    (h : a.cell? ⟨B1, 0, none⟩ = some x0 ∧ a.cell? ⟨B1, 1, none⟩ = some x1 ∧ a.cell? ⟨B1, 2, none⟩ = some x2 ∧ a.cell? ⟨B1, 3, none⟩ = some x3 ∧ a.cell? ⟨B2, 0, none⟩ = some y0 ∧ a.cell? ⟨B2, 1, none⟩ = some y1 ∧ a.cell? ⟨B2, 2, none⟩ = some y2 ∧ a.cell? ⟨B2, 3, none⟩ = some y3 ∧ Gr w a none) (hg : Gr a b none) :
    b.cell? ⟨B1, 0, none⟩ = some x0 ∧ b.cell? ⟨B1, 1, none⟩ = some x1 ∧ b.cell? ⟨B1, 2, none⟩ = some x2 ∧ b.cell? ⟨B1, 3, none⟩ = some x3 ∧ b.cell? ⟨B2, 0, none⟩ = some y0 ∧ b.cell? ⟨B2, 1, none⟩ = some y1 ∧ b.cell? ⟨B2, 2, none⟩ = some y2 ∧ b.cell? ⟨B2, 3, none⟩ = some y3 ∧ Gr w b none := by
  obtain ⟨a0, a1, a2, a3, b0, b1, b2, b3, hw⟩ := h
  exact ⟨World.grownBy.cell hg a0 (by simp), World.grownBy.cell hg a1 (by simp), World.grownBy.cell hg a2 (by simp), World.grownBy.cell hg a3 (by simp), World.grownBy.cell hg b0 (by simp), World.grownBy.cell hg b1 (by simp), World.grownBy.cell hg b2 (by simp), World.grownBy.cell hg b3 (by simp), gr_then hw hg⟩
theorem gr_row {W a b : World} {r : Option Nat} (h : Gr W a none) (k : Gr a b r) (hr : ∀ j, r = some j → W.heap.size ≤ j) : Gr W b none := gr_trans h k (fun j e => .inr (hr j e))
theorem ne_of {r : Option Nat} {B lo hi : Nat} (h : ∀ j, r = some j → lo ≤ j ∧ j < hi) (hB : B < lo ∨ hi ≤ B) : r ≠ some B := fun e => by have := h B e; omega
theorem ne_rows {r s : Option Nat} {lo hi lo' hi' : Nat} (h : ∀ j, r = some j → lo ≤ j ∧ j < hi) (h' : ∀ j, s = some j → lo' ≤ j ∧ j < hi') (hd : hi ≤ lo' ∨ hi' ≤ lo) : r = none ∨ r ≠ s := by
  cases r with
  | none => exact .inl rfl
  | some k =>
    right; intro e
    have h1 := h k rfl
    have h2 := h' k e.symm
    omega
theorem bnd {w : World} {B s n hi : Nat} {E : TypeId} {v : Value} {xs : List Value} (h : w.ownsRow B E s v n xs) (hh : w.heap.size ≤ hi) : ∀ j, v.ownBlock = some j → B ≤ j ∧ j < hi := fun j hj => ⟨(h.lt j hj).1, Nat.lt_of_lt_of_le (h.lt j hj).2 hh⟩
end Go.Proofs.Ytmnfainepmnpeaa
