/- Boxes of the call's own that hold a struct of two numbers. -/
import Derived.Test.YtbmgmolnknnaiaaBase
namespace Go.Proofs.Ytbmgmolnknnaiaa
open Go.RowKit

/-- Block B holds the two numbers. -/
def Box2 (w : World) (B : Nat) (x y : Int) : Prop := w.cell? ⟨B, 0, none⟩ = some (.int .i64 x) ∧ w.cell? ⟨B, 1, none⟩ = some (.int .i64 y) ∧ B < w.heap.size
theorem box_new (w : World) (T : TypeId) (x y : Int) : Box2 (w.alloc (.cells #[.int .i64 x, .int .i64 y] T)) w.heap.size x y := ⟨by simp, by simp, by simp⟩
theorem Box2.on {a b : World} {B : Nat} {x y : Int} (h : Box2 a B x y) (hg : Gr a b none) : Box2 b B x y :=
  ⟨World.grownBy.cell hg h.1 (by simp), World.grownBy.cell hg h.2.1 (by simp), Nat.lt_of_lt_of_le h.2.2 (gr_le hg)⟩
theorem Box2.kept {a b : World} {r : Option Nat} {B : Nat} {x y : Int} (h : Box2 a B x y) (hg : Gr a b r) (hr : r ≠ some B) : Box2 b B x y :=
  ⟨World.grownBy.cell hg h.1 (Ne.symm hr), World.grownBy.cell hg h.2.1 (Ne.symm hr), Nat.lt_of_lt_of_le h.2.2 (gr_le hg)⟩
theorem Box2.al {a : World} {B : Nat} {x y : Int} (h : Box2 a B x y) (o : Obj) : Box2 (a.alloc o) B x y := h.on (gr_alloc (gr_refl _ _) o)
theorem cell_on {a b : World} (hg : Gr a b none) {p : Addr} {v : Value} (h : a.cell? p = some v) : b.cell? p = some v := World.grownBy.cell hg h (by simp)
end Go.Proofs.Ytbmgmolnknnaiaa
