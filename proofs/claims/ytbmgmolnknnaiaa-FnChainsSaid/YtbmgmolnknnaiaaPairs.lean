/- Slices of structs of two numbers: how they read, and rows of them that a call makes. -/
import Derived.Test.YtbmgmolnknnaiaaBase
namespace Go.Proofs.Ytbmgmolnknnaiaa
open Go.RowKit

/-! ### Slices of structs of two numbers -/
/-- Element i of a list of pairs. -/
def gp (ps : List (Int × Int)) (i : Nat) : Int × Int := ps.getD i (0, 0)
theorem gp_lt {ps : List (Int × Int)} {i : Nat} (h : i < ps.length) : gp ps i = ps[i] := by simp [gp, List.getD, h]
theorem gp_mem {ps : List (Int × Int)} {i : Nat} (h : i < ps.length) : gp ps i ∈ ps := by rw [gp_lt h]; exact List.getElem_mem h
def PairsAt (w : World) (b off : Nat) (ps : List (Int × Int)) : Prop :=
  ∀ i, i < ps.length → w.cell? ⟨b, off + i * 2, none⟩ = some (.int .i64 (gp ps i).1) ∧ w.cell? ⟨b, off + i * 2 + 1, none⟩ = some (.int .i64 (gp ps i).2)
/-- The slice v reads as the pairs ps. -/
def Pairs (w : World) (v : Value) (ps : List (Int × Int)) : Prop :=
  (∀ x ∈ ps, I64 x.1 ∧ I64 x.2) ∧ ∃ a cap, v = .slice a ps.length cap ∧ ps.length ≤ cap ∧ cap ≤ maxLen ∧ (ps = [] ∨ ∃ b off, a = some ⟨b, off, none⟩ ∧ PairsAt w b off ps)
theorem PairsAt.kept {w w' : World} {r : Option Nat} {b off : Nat} {ps : List (Int × Int)} (h : PairsAt w b off ps) (hg : Gr w w' r) (hr : r ≠ some b) : PairsAt w' b off ps := by
  intro i hi
  have hb : b < w.heap.size := World.block_lt_of_cell? w _ (h i hi).1
  rw [gr_cellr hg hb hr, gr_cellr hg hb hr]; exact h i hi
theorem Pairs.kept {w w' : World} {r : Option Nat} {v : Value} {ps : List (Int × Int)} (h : Pairs w v ps) (hg : Gr w w' r) (hr : ∀ j, r = some j → v.ownBlock ≠ some j) : Pairs w' v ps := by
  obtain ⟨h1, a, cap, rfl, h2, h3, h4⟩ := h
  refine ⟨h1, a, cap, rfl, h2, h3, ?_⟩
  rcases h4 with h4 | ⟨b, off, rfl, h4⟩
  · exact .inl h4
  · exact .inr ⟨b, off, rfl, h4.kept hg fun e => hr b e rfl⟩
theorem Pairs.on {w w' : World} {v : Value} {ps : List (Int × Int)} (h : Pairs w v ps) (hg : Gr w w' none) : Pairs w' v ps := h.kept hg (by intro j e; cases e)
/-- The cells of a list of pairs. -/
def pcells (ps : List (Int × Int)) : List Value := ps.flatMap fun x => [Value.int .i64 x.1, Value.int .i64 x.2]
theorem pcells_length (ps : List (Int × Int)) : (pcells ps).length = ps.length * 2 := by
  induction ps with
  | nil => rfl
  | cons x l ih => show (_ :: _ :: pcells l).length = _; simp [ih]; omega
theorem pcells_get : ∀ (ps : List (Int × Int)) (i : Nat), i < ps.length → (pcells ps)[i * 2]? = some (.int .i64 (gp ps i).1) ∧ (pcells ps)[i * 2 + 1]? = some (.int .i64 (gp ps i).2)
  | x :: l, 0, _ => ⟨rfl, rfl⟩
  | x :: l, i + 1, h => by
    have := pcells_get l i (by simpa using h)
    have e : pcells (x :: l) = .int .i64 x.1 :: .int .i64 x.2 :: pcells l := rfl
    rw [e, show (i + 1) * 2 = i * 2 + 1 + 1 from by omega]
    exact this
/-- A row of pairs that the call itself made. E: the number of the struct's type. -/
def OwnP (E : TypeId) (w : World) (B : Nat) (v : Value) (ps : List (Int × Int)) : Prop := (∀ x ∈ ps, I64 x.1 ∧ I64 x.2) ∧ w.ownsRow B E 2 v ps.length (pcells ps)
theorem OwnP.pairs {E : TypeId} {w : World} {B : Nat} {v : Value} {ps : List (Int × Int)} (h : OwnP E w B v ps) : Pairs w v ps := by
  obtain ⟨h0, h1⟩ := h
  have h1' := h1
  obtain ⟨hl, h2⟩ := h1
  refine ⟨h0, ?_⟩
  rcases h2 with ⟨rfl, h2⟩ | ⟨g, cap, cur, rfl, hb, hg, hn, hm, hs, ht⟩
  · have : ps = [] := by simpa using h2
    subst this
    exact ⟨none, 0, rfl, Nat.le_refl _, by unfold maxLen; omega, .inl rfl⟩
  · refine ⟨_, cap, rfl, hn, hm, .inr ⟨g, 0, rfl, fun i hi => ?_⟩⟩
    obtain ⟨c1, c2⟩ := pcells_get ps i hi
    have d1 := h1'.cells (g := g) rfl (i * 2) _ c1
    have d2 := h1'.cells (g := g) rfl (i * 2 + 1) _ c2
    refine ⟨?_, by simpa [Addr.add] using d2⟩
    by_cases h0 : i = 0
    · subst h0; simpa [Addr.add] using d1
    · have h2 : ¬ i * 2 = 0 := by omega
      simpa [Addr.add, h2] using d1
theorem OwnP.kept {E : TypeId} {w w' : World} {B : Nat} {r : Option Nat} {v : Value} {ps : List (Int × Int)} (h : OwnP E w B v ps) (hg : Gr w w' r) (hr : v.ownBlock = none ∨ v.ownBlock ≠ r) : OwnP E w' B v ps :=
  ⟨h.1, h.2.kept hg hr⟩
theorem OwnP.on {E : TypeId} {w w' : World} {B : Nat} {v : Value} {ps : List (Int × Int)} (h : OwnP E w B v ps) (hg : Gr w w' none) : OwnP E w' B v ps :=
  h.kept hg (by cases hv : v.ownBlock <;> simp)
theorem OwnP.lt {E : TypeId} {w : World} {B : Nat} {v : Value} {ps : List (Int × Int)} (h : OwnP E w B v ps) : ∀ k, v.ownBlock = some k → B ≤ k ∧ k < w.heap.size := h.2.lt
theorem OwnP.above {E : TypeId} {w : World} {B : Nat} {v : Value} {ps : List (Int × Int)} (h : OwnP E w B v ps) : ∀ k, v.ownBlock = some k → B ≤ k := fun k hk => (h.lt k hk).1
def RetP (E : TypeId) (w : World) (ps : List (Int × Int)) (e : Ending) (w' : World) : Prop := ∃ u, e = .returned u ∧ OwnP E w' w.heap.size u ps ∧ Gr w w' none
theorem pcells_set : ∀ (ps : List (Int × Int)) (k : Nat) (x y : Int), ((pcells ps).set (k * 2) (.int .i64 x)).set (k * 2 + 1) (.int .i64 y) = pcells (ps.set k (x, y))
  | [], k, x, y => by simp [pcells]
  | q :: l, 0, x, y => rfl
  | q :: l, k + 1, x, y => by
    have := pcells_set l k x y
    have e : pcells (q :: l) = .int .i64 q.1 :: .int .i64 q.2 :: pcells l := rfl
    rw [e, show (k + 1) * 2 = k * 2 + 1 + 1 from by omega]
    simp only [List.set_cons_succ]
    rw [this]
    rfl
/-- The list ps copied up to k, zeros behind. -/
def pcopy (ps : List (Int × Int)) (k : Nat) : List (Int × Int) := (List.range ps.length).map fun i => if i < k then gp ps i else (0, 0)
@[simp] theorem pcopy_length (ps : List (Int × Int)) (k : Nat) : (pcopy ps k).length = ps.length := by simp [pcopy]
theorem pcopy_all (ps : List (Int × Int)) : pcopy ps ps.length = ps := by
  apply List.ext_getElem
  · simp
  · intro i h1 h2
    simp [pcopy, h2, gp_lt]
theorem pcopy_set (ps : List (Int × Int)) (k : Nat) : (pcopy ps k).set k (gp ps k) = pcopy ps (k + 1) := by
  apply List.ext_getElem
  · simp
  · intro i h1 h2
    simp at h1
    rw [List.getElem_set]
    by_cases e : k = i
    · subst e; simp [pcopy]
    · simp only [e, if_false, pcopy, List.getElem_map, List.getElem_range]
      by_cases hik : i < k
      · rw [if_pos hik, if_pos (by omega)]
      · rw [if_neg hik, if_neg (by omega)]
theorem pcopy_zero (ps : List (Int × Int)) : pcells (pcopy ps 0) = (madeCells #[.int .i64 0, .int .i64 0] (ps.length * 2)).toList := by
  apply List.ext_getElem?
  intro j
  by_cases hj : j < ps.length * 2
  · have h2 : (madeCells #[Value.int .i64 0, Value.int .i64 0] (ps.length * 2)).toList[j]? = some (Value.int .i64 0) := by
      simp only [madeCells, Array.getElem?_toList, Array.getElem?_map]
      rw [Array.getElem?_range, if_pos hj]
      simp only [Option.map_some, List.size_toArray, List.length_cons, List.length_nil]
      congr 1
      rcases Nat.mod_two_eq_zero_or_one j with h | h
      · simp [h]
      · simp [h]
    rw [h2]
    have hi : j / 2 < (pcopy ps 0).length := by simp; omega
    have hg : gp (pcopy ps 0) (j / 2) = (0, 0) := by rw [gp_lt hi]; simp [pcopy]
    obtain ⟨c1, c2⟩ := pcells_get (pcopy ps 0) (j / 2) hi
    rw [hg] at c1 c2
    rcases Nat.mod_two_eq_zero_or_one j with h | h
    · rw [show j / 2 * 2 = j from by omega] at c1
      exact c1
    · rw [show j / 2 * 2 + 1 = j from by omega] at c2
      exact c2
  · rw [List.getElem?_eq_none (by rw [pcells_length]; simp; omega), List.getElem?_eq_none (by simp [size_madeCells]; omega)]
theorem pcopy_get (ps : List (Int × Int)) (k j : Nat) (h : j < ps.length) : ∃ c d, (pcells (pcopy ps k))[j * 2]? = some c ∧ (pcells (pcopy ps k))[j * 2 + 1]? = some d := by
  obtain ⟨c1, c2⟩ := pcells_get (pcopy ps k) j (by simpa using h)
  exact ⟨_, _, c1, c2⟩
/-- The first k elements of the two lists are equal. -/
def EqPTo (xs ys : List (Int × Int)) (k : Nat) : Prop := ∀ i, i < k → gp xs i = gp ys i
theorem eqPTo_zero (xs ys : List (Int × Int)) : EqPTo xs ys 0 := fun i h => absurd h (Nat.not_lt_zero i)
theorem eqPTo_succ {xs ys : List (Int × Int)} {k : Nat} (h : EqPTo xs ys k) (e : gp xs k = gp ys k) : EqPTo xs ys (k + 1) := by
  intro i hi
  by_cases e' : i = k
  · rw [e']; exact e
  · exact h i (by omega)
theorem eqPTo_all {xs ys : List (Int × Int)} (hl : xs.length = ys.length) (h : EqPTo xs ys xs.length) : decide (xs = ys) = true := by
  simp only [decide_eq_true_eq]
  apply List.ext_getElem hl
  intro i h1 h2
  have := h i h1
  rwa [gp_lt h1, gp_lt h2] at this
theorem eqP_no {xs ys : List (Int × Int)} {k : Nat} (e : ¬ gp xs k = gp ys k) : decide (xs = ys) = false := by
  simp only [decide_eq_false_iff_not]
  intro h; exact e (by rw [h])
theorem eqP_no_len {xs ys : List (Int × Int)} (e : ¬ xs.length = ys.length) : decide (xs = ys) = false := by
  simp only [decide_eq_false_iff_not]
  intro h; exact e (by rw [h])
/-- Whether two structs of two numbers are equal. -/
def eqPB (a p b q : Int) : Bool := decide (a = b) && decide (p = q)
theorem eqPB_true {X Y : Int × Int} (h : eqPB X.1 X.2 Y.1 Y.2 = true) : X = Y := by
  simp only [eqPB, Bool.and_eq_true, decide_eq_true_eq] at h
  exact Prod.ext h.1 h.2
theorem eqPB_false {X Y : Int × Int} (h : eqPB X.1 X.2 Y.1 Y.2 = false) : ¬ X = Y := by
  intro e; subst e; simp [eqPB] at h
end Go.Proofs.Ytbmgmolnknnaiaa
