/- How a net that comes as an argument is opened into the words of Trips: whatever the program. -/
import Derived.Test.YtbkpphcmdjllnaaTrips
import Derived.Test.YtbkpphcmdjllnaaOpen
import Derived.Deep.Strs
namespace Go.Proofs.Ytbkpphcmdjllnaa
open Go.RowKit Go.ChangeShapes Go.WideShapes Go.Joins Go.Deep

section
variable {H : Type} {enc : TypeId × Value → H} {P : Program} {w : World} {base : Nat} {spare : Nat → Bool} {held : Bool} {r : Reach} {b0 : Nat} {t : TypeId} {v : Value} {d : DataW H} {p : List MemPlace}
theorem trip_of_trod {e : TypeId} {n : Nat} {cs : List Value} {y : DataW H × List MemPlace} {f0 f1 f2 : Field} (hs : P.underlying e = some (.struct #[f0, f1, f2])) (hone : oneCellFields P #[f0, f1, f2] = true) (hC : P.cellsOf e = 3)
    (i0 : P.underlying f0.type = some (.int .i64)) (i1 : P.underlying f1.type = some (.int .i64)) (i2 : P.underlying f2.type = some (.int .i64)) (h : DataW.trod enc P w base spare held n e cs = some y) : ∃ a b c, cs = [.int .i64 a, .int .i64 b, .int .i64 c] ∧ I64 a ∧ I64 b ∧ I64 c := by
  obtain ⟨y0, y1, y2, m, _, hl, h0, h1, h2⟩ := trod_struct3 hs h
  rw [hC] at hl
  match cs, hl with
  | [c0, c1, c2], _ =>
    obtain ⟨o0, k0⟩ := hone_of hone 0 f0 rfl
    obtain ⟨o1, k1⟩ := hone_of hone 1 f1 rfl
    obtain ⟨o2, k2⟩ := hone_of hone 2 f2 rfl
    obtain ⟨a, rfl, ha⟩ := open_cell i0 (c := c0) (by simpa [o0, k0] using h0)
    obtain ⟨b, rfl, hb⟩ := open_cell i1 (c := c1) (by simpa [o1, k1] using h1)
    obtain ⟨c, rfl, hc⟩ := open_cell i2 (c := c2) (by simpa [o2, k2] using h2)
    exact ⟨a, b, c, rfl, ha, hb, hc⟩
theorem trips_of_trod {e : TypeId} {fuel : Nat} {x : DataW H × List MemPlace} {f0 f1 f2 : Field} (ht : P.underlying t = some (.slice e)) (hs : P.underlying e = some (.struct #[f0, f1, f2])) (hone : oneCellFields P #[f0, f1, f2] = true) (hC : P.cellsOf e = 3)
    (i0 : P.underlying f0.type = some (.int .i64)) (i1 : P.underlying f1.type = some (.int .i64)) (i2 : P.underlying f2.type = some (.int .i64)) (h : DataW.trod enc P w base spare held fuel t [v] = some x) : ∃ ps, Trips w v ps := by
  rcases open_slice ht h with ⟨hcs, _⟩ | ⟨a, l, c, m, n, D, Pl, hcs, _, hl, hm, hmm, _, hx⟩
  · simp at hcs
    subst hcs
    exact ⟨[], by simp, none, 0, rfl, Nat.le_refl _, by unfold maxLen; omega, .inl rfl⟩
  · simp at hcs
    subst hcs
    have hlm : l ≤ m := by rw [hmm]; split <;> omega
    have each : ∀ i, i < l → ∃ q : Tri, T64 q ∧ w.cell? (a.add (i * 3)) = some (.int .i64 q.1) ∧ w.cell? ((a.add (i * 3)).add 1) = some (.int .i64 q.2.1) ∧ w.cell? ((a.add (i * 3)).add 2) = some (.int .i64 q.2.2) := by
      intro i hi
      obtain ⟨cs', h1, h2⟩ := hx i (by omega)
      obtain ⟨p, q, s, rfl, hp, hq, hr⟩ := trip_of_trod hs hone hC i0 i1 i2 h2
      rw [hC] at h1
      obtain ⟨_, _, h3⟩ := World.cells?_some h1
      have h4 := h3 0 (by omega)
      have h5 := h3 1 (by omega)
      have h6 := h3 2 (by omega)
      simp at h5 h6
      have h4' : w.cell? (a.add (i * 3)) = some (.int .i64 p) := by simpa [Addr.add] using h4
      exact ⟨(p, q, s), ⟨hp, hq, hr⟩, h4', h5, h6⟩
    obtain ⟨f, hf⟩ := choose_lt each
    refine ⟨(List.range l).map f, ?_, some a, c, by simp, by simpa using hl, hm, ?_⟩
    · intro x hxm
      simp only [List.mem_map, List.mem_range] at hxm
      obtain ⟨i, hi, rfl⟩ := hxm
      exact (hf i hi).1
    · by_cases h0 : l = 0
      · left; subst h0; rfl
      · right
        obtain ⟨b, off, spot⟩ := a
        have hs : spot = none := by simpa [Addr.add] using World.cell?_spot (hf 0 (by omega)).2.1
        subst hs
        refine ⟨b, off, rfl, fun i hi => ?_⟩
        simp at hi
        have hg : gt ((List.range l).map f) i = f i := by simp [gt, List.getD, hi]
        rw [hg]
        obtain ⟨_, c1, c2, c3⟩ := hf i hi
        by_cases h1 : i = 0
        · subst h1
          exact ⟨by simpa [Addr.add] using c1, by simpa [Addr.add] using c2, by simpa [Addr.add] using c3⟩
        · have h2 : ¬ i * 3 = 0 := by omega
          exact ⟨by simpa [Addr.add, h2] using c1, by simpa [Addr.add, h2] using c2, by simpa [Addr.add, h2] using c3⟩
theorem open_Net {f0 f1 g0 g1 g2 : Field} {e : TypeId} (hs : P.underlying t = some (.struct #[f0, f1])) (hone : oneCellFields P #[f0, f1] = true) (hC : P.cellsOf t = 2)
    (i0 : P.underlying f0.type = some (.int .i64)) (u1 : P.underlying f1.type = some (.slice e)) (ue : P.underlying e = some (.struct #[g0, g1, g2])) (hone2 : oneCellFields P #[g0, g1, g2] = true) (hC2 : P.cellsOf e = 3)
    (j0 : P.underlying g0.type = some (.int .i64)) (j1 : P.underlying g1.type = some (.int .i64)) (j2 : P.underlying g2.type = some (.int .i64))
    (hv : Value.okWide P w r b0 t v) (h : DataW.Trod enc P w base spare held t v d p) : ∃ n u ts, v = .agg #[.int .i64 n, u] ∧ I64 n ∧ Trips w u ts := by
  obtain ⟨c0, c1, y0, y1, m, rfl, _, _, h0, h1⟩ := open_agg2 hs hone hC hv h
  obtain ⟨n, rfl, hn⟩ := open_cell i0 h0
  obtain ⟨ts, hts⟩ := trips_of_trod u1 ue hone2 hC2 j0 j1 j2 h1
  exact ⟨n, c1, ts, rfl, hn, hts⟩
end
end Go.Proofs.Ytbkpphcmdjllnaa
