/- How the arguments of a law are opened into the words of Base: whatever the program. -/
import Derived.Test.YtbmgmolnknnaiaaPairs
import Derived.Test.YtbmgmolnknnaiaaBytes
namespace Go.Proofs.Ytbmgmolnknnaiaa
open Go.RowKit Go.ChangeShapes Go.WideShapes Go.Joins Go.Deep

section
variable {H : Type} {enc : TypeId × Value → H} {P : Program} {w : World} {base : Nat} {spare : Nat → Bool} {held : Bool} {r : Reach} {b0 : Nat} {t : TypeId} {v : Value} {d : DataW H} {p : List MemPlace}
theorem lt_places (h : DataW.Trod enc P w base spare held t v d p) : ∀ x ∈ p, x.block < w.heap.size := by
  obtain ⟨m, hm⟩ := h; exact DataW.trod_lt m _ _ _ hm
theorem open_I64 (ht : P.underlying t = some (.int .i64)) (hv : Value.okWide P w r b0 t v) (h : DataW.Trod enc P w base spare held t v d p) : ∃ n, v = .int .i64 n ∧ I64 n := by
  obtain ⟨n, hn, _, _, hw⟩ := open_int ht hv h
  exact ⟨n, hn, i64_of_wf hw⟩
theorem open_cell {n : Nat} {c : Value} {y : DataW H × List MemPlace} (ht : P.underlying t = some (.int .i64)) (h : DataW.trod enc P w base spare held n t [c] = some y) : ∃ x, c = .int .i64 x ∧ I64 x := by
  obtain ⟨x, hx, _, hw⟩ := DataW.trod_int ht h
  simp at hx
  exact ⟨x, hx, i64_of_wf hw⟩
theorem open_S2 {f0 f1 : Field} (hs : P.underlying t = some (.struct #[f0, f1])) (hone : oneCellFields P #[f0, f1] = true) (hC : P.cellsOf t = 2) (i0 : P.underlying f0.type = some (.int .i64)) (i1 : P.underlying f1.type = some (.int .i64))
    (hv : Value.okWide P w r b0 t v) (h : DataW.Trod enc P w base spare held t v d p) : ∃ a b, v = .agg #[.int .i64 a, .int .i64 b] ∧ I64 a ∧ I64 b := by
  obtain ⟨c0, c1, y0, y1, n, rfl, _, _, h0, h1⟩ := open_agg2 hs hone hC hv h
  obtain ⟨a, rfl, ha⟩ := open_cell i0 h0
  obtain ⟨b, rfl, hb⟩ := open_cell i1 h1
  exact ⟨a, b, rfl, ha, hb⟩
theorem ints_of_trod {e : TypeId} {fuel : Nat} {x : DataW H × List MemPlace} (ht : P.underlying t = some (.slice e)) (he : P.underlying e = some (.int .i64)) (hc : P.cellsOf e = 1)
    (h : DataW.trod enc P w base spare held fuel t [v] = some x) : ∃ xs, Ints w v xs := by
  rcases open_ints ht he hc h with ⟨hcs, _⟩ | ⟨a, l, c, zs, hcs, _, hl, hm, hz, _, hcell, hwz⟩
  · simp at hcs
    subst hcs
    exact ⟨[], by simp, none, 0, rfl, Nat.le_refl _, by unfold maxLen; omega, .inl rfl⟩
  · simp at hcs
    subst hcs
    have hle : l ≤ zs.length := by rw [hz]; split <;> omega
    have hlen : (zs.take l).length = l := by simp; omega
    refine ⟨zs.take l, fun n hn => i64_of_wf (hwz n (List.mem_of_mem_take hn)), some a, c, by rw [hlen], by omega, hm, ?_⟩
    by_cases h0 : l = 0
    · left; subst h0; rfl
    · right
      obtain ⟨b, off, spot⟩ := a
      have hs : spot = none := by simpa [Addr.add] using World.cell?_spot (hcell 0 (by omega))
      subst hs
      refine ⟨b, off, rfl, fun i hi => ?_⟩
      rw [hlen] at hi
      have hg : gi (zs.take l) i = zs.getD i 0 := by simp [gi, List.getD, hi]
      rw [hg, ← hcell i (by omega)]
      by_cases h1 : i = 0
      · subst h1; simp [Addr.add]
      · simp [Addr.add, h1]
theorem open_Ints {e : TypeId} (ht : P.underlying t = some (.slice e)) (he : P.underlying e = some (.int .i64)) (hc : P.cellsOf e = 1)
    (hv : Value.okWide P w r b0 t v) (h : DataW.Trod enc P w base spare held t v d p) : ∃ xs, Ints w v xs := by
  obtain ⟨a, l, c, rfl⟩ := okWide_slice ht hv
  obtain ⟨fuel, hf⟩ := h
  exact ints_of_trod (v := .slice a l c) ht he hc (by simpa [Value.cells] using hf)
theorem pair_of_trod {e : TypeId} {n : Nat} {cs : List Value} {y : DataW H × List MemPlace} {f0 f1 : Field} (hs : P.underlying e = some (.struct #[f0, f1])) (hone : oneCellFields P #[f0, f1] = true) (hC : P.cellsOf e = 2)
    (i0 : P.underlying f0.type = some (.int .i64)) (i1 : P.underlying f1.type = some (.int .i64)) (h : DataW.trod enc P w base spare held n e cs = some y) : ∃ a b, cs = [.int .i64 a, .int .i64 b] ∧ I64 a ∧ I64 b := by
  obtain ⟨y0, y1, m, _, hl, h0, h1⟩ := trod_struct2 hs h
  rw [hC] at hl
  match cs, hl with
  | [c0, c1], _ =>
    obtain ⟨o0, k0⟩ := hone_of hone 0 f0 rfl
    obtain ⟨o1, k1⟩ := hone_of hone 1 f1 rfl
    obtain ⟨a, rfl, ha⟩ := open_cell i0 (c := c0) (by simpa [o0, k0] using h0)
    obtain ⟨b, rfl, hb⟩ := open_cell i1 (c := c1) (by simpa [o1, k1] using h1)
    exact ⟨a, b, rfl, ha, hb⟩
theorem pairs_of_trod {e : TypeId} {fuel : Nat} {x : DataW H × List MemPlace} {f0 f1 : Field} (ht : P.underlying t = some (.slice e)) (hs : P.underlying e = some (.struct #[f0, f1])) (hone : oneCellFields P #[f0, f1] = true) (hC : P.cellsOf e = 2)
    (i0 : P.underlying f0.type = some (.int .i64)) (i1 : P.underlying f1.type = some (.int .i64)) (h : DataW.trod enc P w base spare held fuel t [v] = some x) : ∃ ps, Pairs w v ps := by
  rcases open_slice ht h with ⟨hcs, _⟩ | ⟨a, l, c, m, n, D, Pl, hcs, _, hl, hm, hmm, _, hx⟩
  · simp at hcs
    subst hcs
    exact ⟨[], by simp, none, 0, rfl, Nat.le_refl _, by unfold maxLen; omega, .inl rfl⟩
  · simp at hcs
    subst hcs
    have hlm : l ≤ m := by rw [hmm]; split <;> omega
    have each : ∀ i, i < l → ∃ q : Int × Int, (I64 q.1 ∧ I64 q.2) ∧ w.cell? (a.add (i * 2)) = some (.int .i64 q.1) ∧ w.cell? ((a.add (i * 2)).add 1) = some (.int .i64 q.2) := by
      intro i hi
      obtain ⟨cs', h1, h2⟩ := hx i (by omega)
      obtain ⟨p, q, rfl, hp, hq⟩ := pair_of_trod hs hone hC i0 i1 h2
      rw [hC] at h1
      obtain ⟨_, _, h3⟩ := World.cells?_some h1
      have h4 := h3 0 (by omega)
      have h5 := h3 1 (by omega)
      simp at h5
      have h4' : w.cell? (a.add (i * 2)) = some (.int .i64 p) := by simpa [Addr.add] using h4
      exact ⟨(p, q), ⟨hp, hq⟩, h4', h5⟩
    obtain ⟨f, hf⟩ := choose_lt each
    refine ⟨(List.range l).map f, ?_, some a, c, by simp, by simpa using hl, hm, ?_⟩
    · intro x hxm
      simp only [List.mem_map, List.mem_range] at hxm
      obtain ⟨i, hi, rfl⟩ := hxm
      exact (hf i hi).1
    · by_cases h0 : l = 0
      · left; subst h0; rfl
      · right
        obtain ⟨b, off, spot⟩ := a
        have hs : spot = none := by simpa [Addr.add] using World.cell?_spot (hf 0 (by omega)).2.1
        subst hs
        refine ⟨b, off, rfl, fun i hi => ?_⟩
        simp at hi
        have hg : gp ((List.range l).map f) i = f i := by simp [gp, List.getD, hi]
        rw [hg]
        obtain ⟨_, c1, c2⟩ := hf i hi
        by_cases h1 : i = 0
        · subst h1
          exact ⟨by simpa [Addr.add] using c1, by simpa [Addr.add] using c2⟩
        · have h2 : ¬ i * 2 = 0 := by omega
          exact ⟨by simpa [Addr.add, h2] using c1, by simpa [Addr.add, h2] using c2⟩
theorem open_Pairs {e : TypeId} {f0 f1 : Field} (ht : P.underlying t = some (.slice e)) (hs : P.underlying e = some (.struct #[f0, f1])) (hone : oneCellFields P #[f0, f1] = true) (hC : P.cellsOf e = 2)
    (i0 : P.underlying f0.type = some (.int .i64)) (i1 : P.underlying f1.type = some (.int .i64)) (hv : Value.okWide P w r b0 t v) (h : DataW.Trod enc P w base spare held t v d p) : ∃ ps, Pairs w v ps := by
  obtain ⟨a, l, c, rfl⟩ := okWide_slice ht hv
  obtain ⟨fuel, hf⟩ := h
  exact pairs_of_trod (v := .slice a l c) ht hs hone hC i0 i1 (by simpa [Value.cells] using hf)
theorem open_Bytes {e : TypeId} (ht : P.underlying t = some (.slice e)) (he : P.underlying e = some (.int .u8)) (hc : P.cellsOf e = 1)
    (hv : Value.okWide P w r b0 t v) (h : DataW.Trod enc P w base spare held t v d p) : ∃ n, BytesN w v n := by
  obtain ⟨a, l, c, rfl⟩ := okWide_slice ht hv
  obtain ⟨fuel, hf⟩ := h
  rcases open_ints ht he hc (by simpa [Value.cells] using hf) with ⟨hcs, _⟩ | ⟨a', l', c', zs, hcs, _, hl, hm, hz, _, hcell, hwz⟩
  · simp at hcs
    obtain ⟨rfl, rfl, rfl⟩ := hcs
    exact ⟨0, none, 0, rfl, Nat.le_refl _, by unfold maxLen; omega, .inl rfl⟩
  · simp at hcs
    obtain ⟨rfl, rfl, rfl⟩ := hcs
    have hle : l ≤ zs.length := by rw [hz]; split <;> omega
    refine ⟨l, some a', c, rfl, hl, hm, ?_⟩
    by_cases h0 : l = 0
    · exact .inl h0
    · right
      obtain ⟨b, off, spot⟩ := a'
      have hs : spot = none := by simpa [Addr.add] using World.cell?_spot (hcell 0 (by omega))
      subst hs
      refine ⟨b, off, rfl, fun i hi => ?_⟩
      have hb := bounds_u8 (hwz (zs.getD i 0) (by simp only [List.getD]; rw [List.getElem?_eq_getElem (by omega)]; exact List.getElem_mem _))
      refine ⟨zs.getD i 0, hb.1, hb.2, ?_⟩
      rw [← hcell i (by omega)]
      by_cases h1 : i = 0
      · subst h1; simp [Addr.add]
      · simp [Addr.add, h1]
theorem open_Str (ht : P.underlying t = some .string) (hv : Value.okWide P w r b0 t v) (h : DataW.Trod enc P w base spare held t v d p) : ∃ s : ByteArray, v = .string s ∧ s.size ≤ maxLen := by
  obtain ⟨s, hs, _, _, hw⟩ := Go.ChangeMaps.open_string ht hv h
  exact ⟨s, hs, hw⟩
theorem open_Chain {f0 f1 g0 g1 : Field} {e el : TypeId} (hs : P.underlying t = some (.struct #[f0, f1])) (hone : oneCellFields P #[f0, f1] = true) (hC : P.cellsOf t = 2)
    (u0 : P.underlying f0.type = some (.slice e)) (ue : P.underlying e = some (.struct #[g0, g1])) (hone2 : oneCellFields P #[g0, g1] = true) (hC2 : P.cellsOf e = 2)
    (j0 : P.underlying g0.type = some (.int .i64)) (j1 : P.underlying g1.type = some (.int .i64)) (u1 : P.underlying f1.type = some (.slice el)) (ul : P.underlying el = some (.int .i64)) (hc : P.cellsOf el = 1)
    (hv : Value.okWide P w r b0 t v) (h : DataW.Trod enc P w base spare held t v d p) : ∃ u v' ps xs, v = .agg #[u, v'] ∧ Pairs w u ps ∧ Ints w v' xs := by
  obtain ⟨c0, c1, y0, y1, n, rfl, _, _, h0, h1⟩ := open_agg2 hs hone hC hv h
  obtain ⟨ps, hp⟩ := pairs_of_trod u0 ue hone2 hC2 j0 j1 h0
  obtain ⟨xs, hx⟩ := ints_of_trod u1 ul hc h1
  exact ⟨c0, c1, ps, xs, rfl, hp, hx⟩
theorem open_Year {f0 f1 f2 f3 : Field} {el : TypeId} (hs : P.underlying t = some (.struct #[f0, f1, f2, f3])) (hone : oneCellFields P #[f0, f1, f2, f3] = true) (hC : P.cellsOf t = 4)
    (i0 : P.underlying f0.type = some (.int .i64)) (i1 : P.underlying f1.type = some (.int .i64)) (u2 : P.underlying f2.type = some (.slice el)) (i3 : P.underlying f3.type = some (.int .i64)) (ul : P.underlying el = some (.int .i64)) (hc : P.cellsOf el = 1)
    (hv : Value.okWide P w r b0 t v) (h : DataW.Trod enc P w base spare held t v d p) : ∃ a b u c xs, v = .agg #[.int .i64 a, .int .i64 b, u, .int .i64 c] ∧ I64 a ∧ I64 b ∧ Ints w u xs ∧ I64 c := by
  obtain ⟨c0, c1, c2, c3, y0, y1, y2, y3, n, rfl, _, _, h0, h1, h2, h3⟩ := open_agg4 hs hone hC hv h
  obtain ⟨a, rfl, ha⟩ := open_cell i0 h0
  obtain ⟨b, rfl, hb⟩ := open_cell i1 h1
  obtain ⟨c, rfl, hc'⟩ := open_cell i3 h3
  obtain ⟨xs, hx⟩ := ints_of_trod u2 ul hc h2
  exact ⟨a, b, c2, c, xs, rfl, ha, hb, hx, hc'⟩
end
end Go.Proofs.Ytbmgmolnknnaiaa
