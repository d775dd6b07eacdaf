/- WayOf of the model, walked. -/
import Derived.Test.YtbmgmolnknnaiaaWay1
namespace Go.Proofs.Ytbmgmolnknnaiaa
open Go.RowKit

theorem made1 (w : World) (o : Obj) (E : TypeId) : ((w.alloc o).alloc (.cells #[] E)).ownsRow (w.heap.size + 1) E 1 (.slice (some ⟨w.heap.size + 1, 0, none⟩) 0 0) 0 [] := by
  have h := World.ownsRow_made (base := w.heap.size + 1) (e := E) (size := 1) (w.alloc o) #[] 0 (by simp) (by unfold maxLen; omega) rfl
  simpa using h
end Go.Proofs.Ytbmgmolnknnaiaa
