/- Slices of strings: how they read, and rows of them that a call makes. -/
import Derived.Test.YtjnphdjblmognaaDoorBase
namespace Go.Proofs.YtjnphdjblmognaaDoor
open Go.RowKit

/-- Element i of a list of strings. -/
def gs (ss : List ByteArray) (i : Nat) : ByteArray := ss.getD i ByteArray.empty
theorem gs_lt {ss : List ByteArray} {i : Nat} (h : i < ss.length) : gs ss i = ss[i] := by simp [gs, List.getD, h]
theorem gs_mem {ss : List ByteArray} {i : Nat} (h : i < ss.length) : gs ss i ∈ ss := by rw [gs_lt h]; exact List.getElem_mem h
def StrsAt (w : World) (b off : Nat) (ss : List ByteArray) : Prop := ∀ i, i < ss.length → w.cell? ⟨b, off + i, none⟩ = some (.string (gs ss i))
/-- The slice v reads as the strings ss. -/
def Strs (w : World) (v : Value) (ss : List ByteArray) : Prop :=
  ∃ a cap, v = .slice a ss.length cap ∧ ss.length ≤ cap ∧ cap ≤ maxLen ∧ (ss = [] ∨ ∃ b off, a = some ⟨b, off, none⟩ ∧ StrsAt w b off ss)
theorem StrsAt.kept {w w' : World} {r : Option Nat} {b off : Nat} {ss : List ByteArray} (h : StrsAt w b off ss) (hg : Gr w w' r) (hr : r ≠ some b) : StrsAt w' b off ss := by
  intro i hi
  have hb : b < w.heap.size := World.block_lt_of_cell? w _ (h i hi)
  rw [gr_cellr hg hb hr]; exact h i hi
theorem Strs.kept {w w' : World} {r : Option Nat} {v : Value} {ss : List ByteArray} (h : Strs w v ss) (hg : Gr w w' r) (hr : ∀ j, r = some j → v.ownBlock ≠ some j) : Strs w' v ss := by
  obtain ⟨a, cap, rfl, h2, h3, h4⟩ := h
  refine ⟨a, cap, rfl, h2, h3, ?_⟩
  rcases h4 with h4 | ⟨b, off, rfl, h4⟩
  · exact .inl h4
  · exact .inr ⟨b, off, rfl, h4.kept hg fun e => hr b e rfl⟩
theorem Strs.on {w w' : World} {v : Value} {ss : List ByteArray} (h : Strs w v ss) (hg : Gr w w' none) : Strs w' v ss := h.kept hg (by intro j e; cases e)
/-- A row of strings that the call itself made. E: the number of the type string. -/
def OwnS (E : TypeId) (w : World) (B : Nat) (v : Value) (ss : List ByteArray) : Prop := w.ownsRow B E 1 v ss.length (ss.map Value.string)
theorem OwnS.strs {E : TypeId} {w : World} {B : Nat} {v : Value} {ss : List ByteArray} (h : OwnS E w B v ss) : Strs w v ss := by
  have h1' : w.ownsRow B E 1 v ss.length (ss.map Value.string) := h
  obtain ⟨hl, h2⟩ := h
  rcases h2 with ⟨rfl, h2⟩ | ⟨g, cap, cur, rfl, hb, hg, hn, hm, hs, ht⟩
  · have : ss = [] := by simpa using h2
    subst this
    exact ⟨none, 0, rfl, Nat.le_refl _, by unfold maxLen; omega, .inl rfl⟩
  · refine ⟨_, cap, rfl, hn, hm, .inr ⟨g, 0, rfl, fun i hi => ?_⟩⟩
    have := h1'.cells (g := g) rfl i (.string (gs ss i)) (by simp [hi, gs_lt])
    by_cases h0 : i = 0
    · subst h0; simpa [Addr.add] using this
    · simpa [Addr.add, h0] using this
theorem OwnS.kept {E : TypeId} {w w' : World} {B : Nat} {r : Option Nat} {v : Value} {ss : List ByteArray} (h : OwnS E w B v ss) (hg : Gr w w' r) (hr : v.ownBlock = none ∨ v.ownBlock ≠ r) : OwnS E w' B v ss := World.ownsRow.kept h hg hr
theorem OwnS.on {E : TypeId} {w w' : World} {B : Nat} {v : Value} {ss : List ByteArray} (h : OwnS E w B v ss) (hg : Gr w w' none) : OwnS E w' B v ss :=
  h.kept hg (by cases hv : v.ownBlock <;> simp)
theorem OwnS.lt {E : TypeId} {w : World} {B : Nat} {v : Value} {ss : List ByteArray} (h : OwnS E w B v ss) : ∀ k, v.ownBlock = some k → B ≤ k ∧ k < w.heap.size := World.ownsRow.lt h
theorem OwnS.mono {E : TypeId} {w : World} {B B' : Nat} {v : Value} {ss : List ByteArray} (h : OwnS E w B v ss) (hB : B' ≤ B) : OwnS E w B' v ss := by
  obtain ⟨h1, h2⟩ := h
  refine ⟨h1, ?_⟩
  rcases h2 with h2 | ⟨g, cap, cur, hv, hb, rest⟩
  · exact .inl h2
  · exact .inr ⟨g, cap, cur, hv, by omega, rest⟩
/-- What a function hands back that makes a slice of strings of its own, and a word. -/
def RetSB (E : TypeId) (w : World) (ss : List ByteArray) (ok : Bool) (e : Ending) (w' : World) : Prop := ∃ u, e = .returned (.tuple #[u, .bool ok]) ∧ OwnS E w' w.heap.size u ss ∧ Gr w w' none
/-- The first k elements of the two lists are equal. -/
def EqSTo (xs ys : List ByteArray) (k : Nat) : Prop := ∀ i, i < k → gs xs i = gs ys i
theorem eqSTo_zero (xs ys : List ByteArray) : EqSTo xs ys 0 := fun i h => absurd h (Nat.not_lt_zero i)
theorem eqSTo_succ {xs ys : List ByteArray} {k : Nat} (h : EqSTo xs ys k) (e : gs xs k = gs ys k) : EqSTo xs ys (k + 1) := by
  intro i hi
  by_cases e' : i = k
  · rw [e']; exact e
  · exact h i (by omega)
theorem eqSTo_all {xs ys : List ByteArray} (hl : xs.length = ys.length) (h : EqSTo xs ys xs.length) : decide (xs = ys) = true := by
  simp only [decide_eq_true_eq]
  apply List.ext_getElem hl
  intro i h1 h2
  have := h i h1
  rwa [gs_lt h1, gs_lt h2] at this
theorem eqS_no {xs ys : List ByteArray} {k : Nat} (e : ¬ gs xs k = gs ys k) : decide (xs = ys) = false := by
  simp only [decide_eq_false_iff_not]
  intro h; exact e (by rw [h])
theorem eqS_no_len {xs ys : List ByteArray} (e : ¬ xs.length = ys.length) : decide (xs = ys) = false := by
  simp only [decide_eq_false_iff_not]
  intro h; exact e (by rw [h])
theorem one_str (x : ByteArray) : ∀ u ∈ [Value.string x], u.oneCell' = true := by
  intro u hu; simp at hu; subst hu; rfl
/-- The list ss, its first j elements overwritten by what f gives from k on. -/
def markSTo (f : Int → ByteArray) (ss : List ByteArray) (k : Int) (j : Nat) : List ByteArray := (List.range ss.length).map fun i => if i < j then f (k + (i : Nat)) else gs ss i
@[simp] theorem markSTo_length (f : Int → ByteArray) (ss : List ByteArray) (k : Int) (j : Nat) : (markSTo f ss k j).length = ss.length := by simp [markSTo]
theorem markSTo_zero (f : Int → ByteArray) (ss : List ByteArray) (k : Int) : markSTo f ss k 0 = ss := by
  apply List.ext_getElem
  · simp
  · intro i h1 h2
    simp [markSTo, gs_lt h2]
theorem markSTo_set (f : Int → ByteArray) (ss : List ByteArray) (k : Int) (j : Nat) : ((markSTo f ss k j).map Value.string).set j (Value.string (f (k + (j : Nat)))) = (markSTo f ss k (j + 1)).map Value.string := by
  apply List.ext_getElem
  · simp
  · intro i h1 h2
    simp at h1
    rw [List.getElem_set]
    by_cases e : j = i
    · subst e; simp [markSTo]
    · simp only [e, if_false, markSTo, List.getElem_map, List.getElem_range]
      by_cases hij : i < j
      · rw [if_pos hij, if_pos (by omega)]
      · rw [if_neg hij, if_neg (by omega)]
theorem markSTo_get (f : Int → ByteArray) (ss : List ByteArray) (k : Int) (i j : Nat) (h : j < ss.length) : ∃ c, ((markSTo f ss k i).map Value.string)[j]? = some c :=
  ⟨_, List.getElem?_eq_getElem (by simpa using h)⟩
/-- The strings that f gives from k on. -/
def marksS (f : Int → ByteArray) (k : Int) (n : Nat) : List ByteArray := (List.range n).map fun i => f (k + (i : Nat))
@[simp] theorem marksS_length (f : Int → ByteArray) (k : Int) (n : Nat) : (marksS f k n).length = n := by simp [marksS]
theorem gs_marksS {f : Int → ByteArray} {k : Int} {n i : Nat} (h : i < n) : gs (marksS f k n) i = f (k + i) := by simp [gs, marksS, List.getD, h]
theorem markSTo_all (f : Int → ByteArray) (ss : List ByteArray) (k : Int) : markSTo f ss k ss.length = marksS f k ss.length := by
  apply List.ext_getElem
  · simp
  · intro i h1 h2
    simp at h1
    simp [markSTo, marksS, h1]
end Go.Proofs.YtjnphdjblmognaaDoor
