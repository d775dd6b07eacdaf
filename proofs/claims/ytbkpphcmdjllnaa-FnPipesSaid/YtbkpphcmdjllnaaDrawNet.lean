/- A drawn net is in order: plain facts. -/
import Derived.Test.YtbkpphcmdjllnaaTurn
import Derived.Test.YtbkpphcmdjllnaaHasE
namespace Go.Proofs.Ytbkpphcmdjllnaa
open Go.RowKit

/-- The other end that is drawn. -/
theorem other_end {n a y : Int} (ha : 0 ≤ a ∧ a ≤ n - 1) (hy : 0 ≤ y ∧ y ≤ n - 2) : 0 ≤ (a + 1 + y) % n ∧ (a + 1 + y) % n ≤ n - 1 ∧ a ≠ (a + 1 + y) % n := by
  by_cases h : a + 1 + y < n
  · rw [Int.emod_eq_of_lt (by omega) h]; omega
  · have e : (a + 1 + y) % n = a + 1 + y - n := by
      rw [← Int.sub_emod_right, Int.emod_eq_of_lt (by omega) (by omega)]
    rw [e]; omega
def SmallP (n : Int) (t : Tri) : Prop := (0 ≤ t.1 ∧ t.1 ≤ n - 1) ∧ (0 ≤ t.2.1 ∧ t.2.1 ≤ n - 1) ∧ t.1 ≠ t.2.1 ∧ 1 ≤ t.2.2 ∧ t.2.2 ≤ 20
theorem drawn_net {n : Int} {ts : List Tri} (h1 : 2 ≤ n) (h2 : n ≤ 8) (hl : ts.length ≤ 20) (hs : ∀ t ∈ ts, SmallP n t) : netB n ts = true := by
  have ha : ts.all (pipeB n) = true := by
    rw [List.all_eq_true]
    intro t ht
    obtain ⟨⟨a1, a2⟩, ⟨b1, b2⟩, c, d1, d2⟩ := hs t ht
    rw [pipeB, inB_mk ⟨a1, a2⟩, inB_mk ⟨b1, b2⟩, inB_mk ⟨d1, by omega⟩]
    simp [c]
  rw [netB, inB_mk ⟨h1, h2⟩, ha]
  simp [hl]
theorem i64_sp {n : Int} {ts : List Tri} (hn : n ≤ 8) (hs : ∀ t ∈ ts, SmallP n t) : ∀ t ∈ ts, T64 t := fun t ht => by
  obtain ⟨⟨a1, a2⟩, ⟨b1, b2⟩, c, d1, d2⟩ := hs t ht
  unfold T64 I64; omega
end Go.Proofs.Ytbkpphcmdjllnaa
