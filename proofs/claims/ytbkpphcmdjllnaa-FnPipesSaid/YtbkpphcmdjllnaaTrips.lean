/- Slices of structs of three numbers: how they read, and rows of them that a call makes. -/
import Derived.Test.YtbkpphcmdjllnaaBase
namespace Go.Proofs.Ytbkpphcmdjllnaa
open Go.RowKit

/-! ### Slices of structs of three numbers -/
abbrev Tri := Int × Int × Int
/-- Element i of a list of triples. -/
def gt (ps : List Tri) (i : Nat) : Tri := ps.getD i (0, 0, 0)
theorem gt_lt {ps : List Tri} {i : Nat} (h : i < ps.length) : gt ps i = ps[i] := by simp [gt, List.getD, h]
theorem gt_mem {ps : List Tri} {i : Nat} (h : i < ps.length) : gt ps i ∈ ps := by rw [gt_lt h]; exact List.getElem_mem h
/-- All three numbers fit int64. -/
def T64 (x : Tri) : Prop := I64 x.1 ∧ I64 x.2.1 ∧ I64 x.2.2
def TripsAt (w : World) (b off : Nat) (ps : List Tri) : Prop :=
  ∀ i, i < ps.length → w.cell? ⟨b, off + i * 3, none⟩ = some (.int .i64 (gt ps i).1) ∧ w.cell? ⟨b, off + i * 3 + 1, none⟩ = some (.int .i64 (gt ps i).2.1) ∧ w.cell? ⟨b, off + i * 3 + 2, none⟩ = some (.int .i64 (gt ps i).2.2)
/-- The slice v reads as the triples ps. -/
def Trips (w : World) (v : Value) (ps : List Tri) : Prop :=
  (∀ x ∈ ps, T64 x) ∧ ∃ a cap, v = .slice a ps.length cap ∧ ps.length ≤ cap ∧ cap ≤ maxLen ∧ (ps = [] ∨ ∃ b off, a = some ⟨b, off, none⟩ ∧ TripsAt w b off ps)
theorem TripsAt.kept {w w' : World} {r : Option Nat} {b off : Nat} {ps : List Tri} (h : TripsAt w b off ps) (hg : Gr w w' r) (hr : r ≠ some b) : TripsAt w' b off ps := by
  intro i hi
  have hb : b < w.heap.size := World.block_lt_of_cell? w _ (h i hi).1
  rw [gr_cellr hg hb hr, gr_cellr hg hb hr, gr_cellr hg hb hr]; exact h i hi
theorem Trips.kept {w w' : World} {r : Option Nat} {v : Value} {ps : List Tri} (h : Trips w v ps) (hg : Gr w w' r) (hr : ∀ j, r = some j → v.ownBlock ≠ some j) : Trips w' v ps := by
  obtain ⟨h1, a, cap, rfl, h2, h3, h4⟩ := h
  refine ⟨h1, a, cap, rfl, h2, h3, ?_⟩
  rcases h4 with h4 | ⟨b, off, rfl, h4⟩
  · exact .inl h4
  · exact .inr ⟨b, off, rfl, h4.kept hg fun e => hr b e rfl⟩
theorem Trips.on {w w' : World} {v : Value} {ps : List Tri} (h : Trips w v ps) (hg : Gr w w' none) : Trips w' v ps := h.kept hg (by intro j e; cases e)
/-- The cells of a list of triples. -/
def tcells (ps : List Tri) : List Value := ps.flatMap fun x => [Value.int .i64 x.1, Value.int .i64 x.2.1, Value.int .i64 x.2.2]
theorem tcells_cons (x : Tri) (l : List Tri) : tcells (x :: l) = .int .i64 x.1 :: .int .i64 x.2.1 :: .int .i64 x.2.2 :: tcells l := rfl
theorem tcells_append (l m : List Tri) : tcells (l ++ m) = tcells l ++ tcells m := by simp [tcells]
theorem tcells_length (ps : List Tri) : (tcells ps).length = ps.length * 3 := by
  induction ps with
  | nil => rfl
  | cons x l ih => rw [tcells_cons]; simp [ih]; omega
theorem tcells_get : ∀ (ps : List Tri) (i : Nat), i < ps.length → (tcells ps)[i * 3]? = some (.int .i64 (gt ps i).1) ∧ (tcells ps)[i * 3 + 1]? = some (.int .i64 (gt ps i).2.1) ∧ (tcells ps)[i * 3 + 2]? = some (.int .i64 (gt ps i).2.2)
  | x :: l, 0, _ => ⟨rfl, rfl, rfl⟩
  | x :: l, i + 1, h => by
    have := tcells_get l i (by simpa using h)
    rw [tcells_cons, show (i + 1) * 3 = i * 3 + 1 + 1 + 1 from by omega]
    exact this
/-- A row of triples that the call itself made. E: the number of the struct's type. -/
def OwnT (E : TypeId) (w : World) (B : Nat) (v : Value) (ps : List Tri) : Prop := (∀ x ∈ ps, T64 x) ∧ w.ownsRow B E 3 v ps.length (tcells ps)
theorem OwnT.trips {E : TypeId} {w : World} {B : Nat} {v : Value} {ps : List Tri} (h : OwnT E w B v ps) : Trips w v ps := by
  obtain ⟨h0, h1⟩ := h
  have h1' := h1
  obtain ⟨hl, h2⟩ := h1
  refine ⟨h0, ?_⟩
  rcases h2 with ⟨rfl, h2⟩ | ⟨g, cap, cur, rfl, hb, hg, hn, hm, hs, ht⟩
  · have : ps = [] := by simpa using h2
    subst this
    exact ⟨none, 0, rfl, Nat.le_refl _, by unfold maxLen; omega, .inl rfl⟩
  · refine ⟨_, cap, rfl, hn, hm, .inr ⟨g, 0, rfl, fun i hi => ?_⟩⟩
    obtain ⟨c1, c2, c3⟩ := tcells_get ps i hi
    have d1 := h1'.cells (g := g) rfl (i * 3) _ c1
    have d2 := h1'.cells (g := g) rfl (i * 3 + 1) _ c2
    have d3 := h1'.cells (g := g) rfl (i * 3 + 2) _ c3
    refine ⟨?_, by simpa [Addr.add] using d2, by simpa [Addr.add] using d3⟩
    by_cases h0 : i = 0
    · subst h0; simpa [Addr.add] using d1
    · have h2 : ¬ i * 3 = 0 := by omega
      simpa [Addr.add, h2] using d1
theorem OwnT.kept {E : TypeId} {w w' : World} {B : Nat} {r : Option Nat} {v : Value} {ps : List Tri} (h : OwnT E w B v ps) (hg : Gr w w' r) (hr : v.ownBlock = none ∨ v.ownBlock ≠ r) : OwnT E w' B v ps :=
  ⟨h.1, h.2.kept hg hr⟩
theorem OwnT.on {E : TypeId} {w w' : World} {B : Nat} {v : Value} {ps : List Tri} (h : OwnT E w B v ps) (hg : Gr w w' none) : OwnT E w' B v ps :=
  h.kept hg (by cases hv : v.ownBlock <;> simp)
theorem OwnT.lt {E : TypeId} {w : World} {B : Nat} {v : Value} {ps : List Tri} (h : OwnT E w B v ps) : ∀ k, v.ownBlock = some k → B ≤ k ∧ k < w.heap.size := h.2.lt
theorem OwnT.above {E : TypeId} {w : World} {B : Nat} {v : Value} {ps : List Tri} (h : OwnT E w B v ps) : ∀ k, v.ownBlock = some k → B ≤ k := fun k hk => (h.lt k hk).1
theorem OwnT.mono {E : TypeId} {w : World} {B B' : Nat} {v : Value} {ps : List Tri} (h : OwnT E w B v ps) (hB : B' ≤ B) : OwnT E w B' v ps := by
  refine ⟨h.1, h.2.1, ?_⟩
  rcases h.2.2 with h0 | ⟨g, cap, cur, e, hb, r⟩
  · exact .inl h0
  · exact .inr ⟨g, cap, cur, e, Nat.le_trans hB hb, r⟩
theorem OwnT.set {E : TypeId} {w : World} {B : Nat} {v : Value} {ps : List Tri} (h : OwnT E w B v ps) {p : Addr} (hp : p.block < B) (u : Value) : OwnT E (w.setCell p u) B v ps :=
  h.kept (r := some p.block) (gr_set (gr_refl _ _) (.inl rfl) _) (by
    cases hv : v.ownBlock with
    | none => exact .inl rfl
    | some k => right; intro e; cases e; have := (h.lt _ hv).1; omega)
def RetT (E : TypeId) (w : World) (ps : List Tri) (e : Ending) (w' : World) : Prop := ∃ u, e = .returned u ∧ OwnT E w' w.heap.size u ps ∧ Gr w w' none
theorem tcells_set : ∀ (ps : List Tri) (k : Nat) (x y z : Int), (((tcells ps).set (k * 3) (.int .i64 x)).set (k * 3 + 1) (.int .i64 y)).set (k * 3 + 2) (.int .i64 z) = tcells (ps.set k (x, y, z))
  | [], k, x, y, z => by simp [tcells]
  | q :: l, 0, x, y, z => rfl
  | q :: l, k + 1, x, y, z => by
    have := tcells_set l k x y z
    rw [tcells_cons, show (k + 1) * 3 = k * 3 + 1 + 1 + 1 from by omega]
    simp only [List.set_cons_succ]
    rw [this]
    rfl
/-- The list ps copied up to k, zeros behind. -/
def tcopy (ps : List Tri) (k : Nat) : List Tri := (List.range ps.length).map fun i => if i < k then gt ps i else (0, 0, 0)
@[simp] theorem tcopy_length (ps : List Tri) (k : Nat) : (tcopy ps k).length = ps.length := by simp [tcopy]
theorem tcopy_all (ps : List Tri) : tcopy ps ps.length = ps := by
  apply List.ext_getElem
  · simp
  · intro i h1 h2
    simp [tcopy, h2, gt_lt]
theorem tcopy_set (ps : List Tri) (k : Nat) : (tcopy ps k).set k (gt ps k) = tcopy ps (k + 1) := by
  apply List.ext_getElem
  · simp
  · intro i h1 h2
    simp at h1
    rw [List.getElem_set]
    by_cases e : k = i
    · subst e; simp [tcopy]
    · simp only [e, if_false, tcopy, List.getElem_map, List.getElem_range]
      by_cases hik : i < k
      · rw [if_pos hik, if_pos (by omega)]
      · rw [if_neg hik, if_neg (by omega)]
theorem mod3 (j : Nat) : j % 3 = 0 ∨ j % 3 = 1 ∨ j % 3 = 2 := by omega
theorem tcopy_zero (ps : List Tri) : tcells (tcopy ps 0) = (madeCells #[.int .i64 0, .int .i64 0, .int .i64 0] (ps.length * 3)).toList := by
  apply List.ext_getElem?
  intro j
  by_cases hj : j < ps.length * 3
  · have h2 : (madeCells #[Value.int .i64 0, Value.int .i64 0, Value.int .i64 0] (ps.length * 3)).toList[j]? = some (Value.int .i64 0) := by
      simp only [madeCells, Array.getElem?_toList, Array.getElem?_map]
      rw [Array.getElem?_range, if_pos hj]
      simp only [Option.map_some, List.size_toArray, List.length_cons, List.length_nil]
      congr 1
      rcases mod3 j with h | h | h
      · simp [h]
      · simp [h]
      · simp [h]
    rw [h2]
    have hi : j / 3 < (tcopy ps 0).length := by simp; omega
    have hg : gt (tcopy ps 0) (j / 3) = (0, 0, 0) := by rw [gt_lt hi]; simp [tcopy]
    obtain ⟨c1, c2, c3⟩ := tcells_get (tcopy ps 0) (j / 3) hi
    rw [hg] at c1 c2 c3
    rcases mod3 j with h | h | h
    · rw [show j / 3 * 3 = j from by omega] at c1
      exact c1
    · rw [show j / 3 * 3 + 1 = j from by omega] at c2
      exact c2
    · rw [show j / 3 * 3 + 2 = j from by omega] at c3
      exact c3
  · rw [List.getElem?_eq_none (by rw [tcells_length]; simp; omega), List.getElem?_eq_none (by simp [size_madeCells]; omega)]
theorem tcopy_get (ps : List Tri) (k j : Nat) (h : j < ps.length) : ∃ c d e, (tcells (tcopy ps k))[j * 3]? = some c ∧ (tcells (tcopy ps k))[j * 3 + 1]? = some d ∧ (tcells (tcopy ps k))[j * 3 + 2]? = some e := by
  obtain ⟨c1, c2, c3⟩ := tcells_get (tcopy ps k) j (by simpa using h)
  exact ⟨_, _, _, c1, c2, c3⟩
/-- The first k elements of the two lists are equal. -/
def EqTTo (xs ys : List Tri) (k : Nat) : Prop := ∀ i, i < k → gt xs i = gt ys i
theorem eqTTo_zero (xs ys : List Tri) : EqTTo xs ys 0 := fun i h => absurd h (Nat.not_lt_zero i)
theorem eqTTo_succ {xs ys : List Tri} {k : Nat} (h : EqTTo xs ys k) (e : gt xs k = gt ys k) : EqTTo xs ys (k + 1) := by
  intro i hi
  by_cases e' : i = k
  · rw [e']; exact e
  · exact h i (by omega)
theorem eqTTo_all {xs ys : List Tri} (hl : xs.length = ys.length) (h : EqTTo xs ys xs.length) : decide (xs = ys) = true := by
  simp only [decide_eq_true_eq]
  apply List.ext_getElem hl
  intro i h1 h2
  have := h i h1
  rwa [gt_lt h1, gt_lt h2] at this
theorem eqT_no {xs ys : List Tri} {k : Nat} (e : ¬ gt xs k = gt ys k) : decide (xs = ys) = false := by
  simp only [decide_eq_false_iff_not]
  intro h; exact e (by rw [h])
theorem eqT_no_len {xs ys : List Tri} (e : ¬ xs.length = ys.length) : decide (xs = ys) = false := by
  simp only [decide_eq_false_iff_not]
  intro h; exact e (by rw [h])
/-- Whether two structs of three numbers are equal. -/
def eqTB (X Y : Tri) : Bool := decide (X = Y)
theorem eqTB_true {X Y : Tri} (h : eqTB X Y = true) : X = Y := by simpa [eqTB] using h
theorem eqTB_false {X Y : Tri} (h : eqTB X Y = false) : ¬ X = Y := by simpa [eqTB] using h
/-- One triple laid into a block of its own, as the source of an append. -/
theorem new_three (w : World) (x y z : Value) (t : TypeId) : ∀ j u, [x, y, z][j]? = some u → (w.alloc (.cells #[x, y, z] t)).cell? ((⟨w.heap.size, 0, none⟩ : Addr).add j) = some u := by
  intro j u hj
  match j, hj with
  | 0, hj => simp at hj; subst hj; simp [Addr.add]
  | 1, hj => simp at hj; subst hj; simp [Addr.add]
  | 2, hj => simp at hj; subst hj; simp [Addr.add]
  | j + 3, hj => simp at hj
theorem three_int (x y z : Int) : ∀ u ∈ [Value.int .i64 x, Value.int .i64 y, Value.int .i64 z], u.oneCell' = true := by
  intro u hu; simp at hu; rcases hu with rfl | rfl | rfl <;> rfl
end Go.Proofs.Ytbkpphcmdjllnaa
