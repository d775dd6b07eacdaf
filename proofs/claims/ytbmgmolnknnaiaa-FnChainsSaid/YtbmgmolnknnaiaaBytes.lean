/- Slices of bytes that are only read. -/
import Derived.Test.YtbmgmolnknnaiaaBase
namespace Go.Proofs.Ytbmgmolnknnaiaa
open Go.RowKit

/-- The slice v reads as n bytes. -/
def BytesN (w : World) (v : Value) (n : Nat) : Prop :=
  ∃ a cap, v = .slice a n cap ∧ n ≤ cap ∧ cap ≤ maxLen ∧ (n = 0 ∨ ∃ b off, a = some ⟨b, off, none⟩ ∧ ∀ i, i < n → ∃ x : Int, 0 ≤ x ∧ x ≤ 255 ∧ w.cell? ⟨b, off + i, none⟩ = some (.int .u8 x))
theorem BytesN.kept {w w' : World} {r : Option Nat} {v : Value} {n : Nat} (h : BytesN w v n) (hg : Gr w w' r) (hr : ∀ j, r = some j → v.ownBlock ≠ some j) : BytesN w' v n := by
  obtain ⟨a, cap, rfl, h2, h3, h4⟩ := h
  refine ⟨a, cap, rfl, h2, h3, ?_⟩
  rcases h4 with h4 | ⟨b, off, rfl, h4⟩
  · exact .inl h4
  · refine .inr ⟨b, off, rfl, fun i hi => ?_⟩
    obtain ⟨x, h5, h6, h7⟩ := h4 i hi
    have hb : b < w.heap.size := World.block_lt_of_cell? w _ h7
    exact ⟨x, h5, h6, by rw [gr_cellr hg hb (fun e => hr b e rfl)]; exact h7⟩
theorem BytesN.on {w w' : World} {v : Value} {n : Nat} (h : BytesN w v n) (hg : Gr w w' none) : BytesN w' v n := h.kept hg (by intro j e; cases e)
end Go.Proofs.Ytbmgmolnknnaiaa
