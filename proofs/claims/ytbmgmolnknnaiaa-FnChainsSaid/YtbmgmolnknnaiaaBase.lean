/- Words and small lemmas for the walks: worlds that only grow, and slices that read as lists. No program is in sight. -/
import Derived.WalkKit
import Derived.WalkSpells
import Derived.WalkLawsBesides
import Derived.ProofKit
import Derived.OpenShut
import Derived.ShutString
import Derived.ChangeOld
import Derived.Below
import Derived.Handy
import Derived.Lib.SmallJoins
import Derived.Deep.QuietTactic
import Derived.BigQuiet
namespace Go.Proofs.Ytbmgmolnknnaiaa
open Go.RowKit

theorem hid {p : Prop} (h : p) : Hid p := h

/-! ### Worlds: only block 'row' of the old ones may have turned -/
def Gr (w w' : World) (row : Option Nat) : Prop := w.grownBy w' row
theorem gr_refl (w : World) (row : Option Nat) : Gr w w row := World.grownBy.refl w row
theorem gr_trans {a b c : World} {r s : Option Nat} (h : Gr a b r) (k : Gr b c s) (hs : ∀ j, s = some j → r = some j ∨ a.heap.size ≤ j) : Gr a c r := by
  refine ⟨k.os.trans h.os, k.tape.trans h.tape, k.output.trans h.output, Nat.le_trans h.size k.size, fun j hj hne => ?_⟩
  refine (k.block j (Nat.lt_of_lt_of_le hj h.size) fun e => ?_).trans (h.block j hj hne)
  rcases hs j e.symm with h1 | h1
  · exact hne h1.symm
  · omega
theorem gr_then {a b c : World} {r : Option Nat} (h : Gr a b r) (k : Gr b c none) : Gr a c r := gr_trans h k (by intro j e; cases e)
theorem gr_same {a b c : World} {r : Option Nat} (h : Gr a b r) (k : Gr b c r) : Gr a c r := gr_trans h k (fun _ e => .inl e)
theorem gr_mono {a b : World} {r : Option Nat} (h : Gr a b none) : Gr a b r := ⟨h.os, h.tape, h.output, h.size, fun j hj _ => h.block j hj (by simp)⟩
theorem gr_drew {a b : World} {r : Option Nat} (h : Gr a b r) : Gr a b.drew r := ⟨h.os, h.tape, h.output, h.size, h.block⟩
theorem gr_drewN {a b : World} {r : Option Nat} (h : Gr a b r) (n : Nat) : Gr a (b.drewN n) r := ⟨h.os, h.tape, h.output, h.size, h.block⟩
theorem gr_alloc {a b : World} {r : Option Nat} (h : Gr a b r) (o : Obj) : Gr a (b.alloc o) r := gr_then h (World.grownBy_alloc b o none)
theorem gr_set {a b : World} {r : Option Nat} (h : Gr a b r) {p : Addr} (hp : r = some p.block ∨ a.heap.size ≤ p.block) (u : Value) : Gr a (b.setCell p u) r :=
  gr_trans h (s := some p.block) ⟨rfl, rfl, rfl, by simp, fun j _ hne => Below.heap_setCell _ _ _ _ (fun e => hne (by rw [e]))⟩ (by intro j e; cases e; exact hp)
theorem gr_of_below {a b : World} (h : Below a.heap.size a b) : Gr a b none := ⟨h.os, h.tape, h.output, h.size, fun j hj _ => h.block j hj⟩
theorem below_of_gr {a b : World} {r : Option Nat} (h : Gr a b r) {B : Nat} (hB : B ≤ a.heap.size) (hr : ∀ j, r = some j → B ≤ j) : Below B a b :=
  ⟨h.os, h.tape, h.output, h.size, fun j hj => h.block j (by omega) (fun e => by have := hr j e.symm; omega)⟩
theorem gr_below {a b : World} (h : Gr a b none) : Below a.heap.size a b := below_of_gr h (Nat.le_refl _) (by intro j e; cases e)
theorem gr_le {a b : World} {r : Option Nat} (h : Gr a b r) : a.heap.size ≤ b.heap.size := h.size
theorem gr_cell {W w1 : World} (hb : Gr W w1 none) : ∀ b o, b < W.heap.size → w1.cell? ⟨b, o, none⟩ = W.cell? ⟨b, o, none⟩ := fun b o h => (gr_below hb).cell (p := ⟨b, o, none⟩) h
theorem gr_frozen {W w1 : World} (hb : Gr W w1 none) : ∀ b o, b < W.heap.size → w1.frozen? ⟨b, o, none⟩ = W.frozen? ⟨b, o, none⟩ := fun b o h => (gr_below hb).frozen (p := ⟨b, o, none⟩) h
theorem gr_cellr {W w1 : World} {r : Option Nat} (hb : Gr W w1 r) {b o : Nat} (h : b < W.heap.size) (hr : r ≠ some b) : w1.cell? ⟨b, o, none⟩ = W.cell? ⟨b, o, none⟩ :=
  World.cell?_of_block (hb.block b h (fun e => hr e.symm))
theorem gr_frozenr {W w1 : World} {r : Option Nat} (hb : Gr W w1 r) {b o : Nat} (h : b < W.heap.size) (hr : r ≠ some b) : w1.frozen? ⟨b, o, none⟩ = W.frozen? ⟨b, o, none⟩ :=
  World.frozen?_of_block (hb.block b h (fun e => hr e.symm))

/-! ### Numbers -/
/-- n lies in the range, both ends included. -/
def inB (n lo hi : Int) : Bool := decide (lo ≤ n) && decide (n ≤ hi)
theorem inB_true {n lo hi : Int} (h : inB n lo hi = true) : lo ≤ n ∧ n ≤ hi := by simpa [inB] using h
theorem inB_false {n lo hi : Int} (h : inB n lo hi = false) : ¬ (lo ≤ n ∧ n ≤ hi) := by
  intro ⟨a, b⟩; simp [inB, a, b] at h
theorem inB_mk {n lo hi : Int} (h : lo ≤ n ∧ n ≤ hi) : inB n lo hi = true := by simp [inB, h.1, h.2]
theorem inB_no {n lo hi : Int} (h : ¬ (lo ≤ n ∧ n ≤ hi)) : inB n lo hi = false := by
  cases e : inB n lo hi
  · rfl
  · exact absurd (inB_true e) h
/-- The number fits int64. -/
def I64 (n : Int) : Prop := -9223372036854775808 ≤ n ∧ n ≤ 9223372036854775807
theorem i64_of_wf {n : Int} (h : (Lit.int .i64 n).wf = true) : I64 n := bounds_i64 h
theorem ret_int {k : IntKind} {a b : Int} (h : a = b) : Ending.returned (.int k a) = .returned (.int k b) := by rw [h]
theorem ret_bool {a b : Bool} (h : a = b) : Ending.returned (.bool a) = .returned (.bool b) := by rw [h]

/-! ### Slices of integers -/
/-- Element i of a list of integers, 0 behind its end. -/
def gi (xs : List Int) (i : Nat) : Int := xs.getD i 0
theorem gi_lt {xs : List Int} {i : Nat} (h : i < xs.length) : gi xs i = xs[i] := by simp [gi, List.getD, h]
theorem gi_mem {xs : List Int} {i : Nat} (h : i < xs.length) : gi xs i ∈ xs := by rw [gi_lt h]; exact List.getElem_mem h

/-- From offset 'off' of block b on lie the integers xs. -/
def IntsAt (w : World) (b off : Nat) (xs : List Int) : Prop := ∀ i, i < xs.length → w.cell? ⟨b, off + i, none⟩ = some (.int .i64 (gi xs i))
/-- The slice v reads as the integers xs. -/
def Ints (w : World) (v : Value) (xs : List Int) : Prop :=
  (∀ x ∈ xs, I64 x) ∧ ∃ a cap, v = .slice a xs.length cap ∧ xs.length ≤ cap ∧ cap ≤ maxLen ∧ (xs = [] ∨ ∃ b off, a = some ⟨b, off, none⟩ ∧ IntsAt w b off xs)
theorem IntsAt.cell {w : World} {b off : Nat} {xs : List Int} (h : IntsAt w b off xs) {i : Nat} (hi : i < xs.length) : w.cell? ⟨b, off + i, none⟩ = some (.int .i64 (gi xs i)) := h i hi
theorem IntsAt.lt {w : World} {b off : Nat} {xs : List Int} (h : IntsAt w b off xs) (hx : xs ≠ []) : b < w.heap.size := by
  have h0 := h 0 (by cases xs; exact absurd rfl hx; simp)
  exact World.block_lt_of_cell? w _ h0
theorem IntsAt.kept {w w' : World} {r : Option Nat} {b off : Nat} {xs : List Int} (h : IntsAt w b off xs) (hg : Gr w w' r) (hr : r ≠ some b) : IntsAt w' b off xs := by
  intro i hi
  have hb : b < w.heap.size := World.block_lt_of_cell? w _ (h i hi)
  rw [gr_cellr hg hb hr]; exact h i hi
theorem Ints.kept {w w' : World} {r : Option Nat} {v : Value} {xs : List Int} (h : Ints w v xs) (hg : Gr w w' r) (hr : ∀ j, r = some j → v.ownBlock ≠ some j) : Ints w' v xs := by
  obtain ⟨h1, a, cap, rfl, h2, h3, h4⟩ := h
  refine ⟨h1, a, cap, rfl, h2, h3, ?_⟩
  rcases h4 with h4 | ⟨b, off, rfl, h4⟩
  · exact .inl h4
  · refine .inr ⟨b, off, rfl, h4.kept hg fun e => ?_⟩
    exact hr b e rfl
theorem Ints.on {w w' : World} {v : Value} {xs : List Int} (h : Ints w v xs) (hg : Gr w w' none) : Ints w' v xs := h.kept hg (by intro j e; cases e)
theorem Ints.bd {w : World} {v : Value} {xs : List Int} (h : Ints w v xs) {i : Nat} (hi : i < xs.length) : I64 (gi xs i) := h.1 _ (gi_mem hi)
/-- A row that the call itself made, as a slice of integers. E: the number of the type int. -/
def OwnI (E : TypeId) (w : World) (B : Nat) (v : Value) (xs : List Int) : Prop := (∀ x ∈ xs, I64 x) ∧ w.ownsRow B E 1 v xs.length (xs.map (Value.int .i64))
theorem OwnI.ints {E : TypeId} {w : World} {B : Nat} {v : Value} {xs : List Int} (h : OwnI E w B v xs) : Ints w v xs := by
  obtain ⟨h0, h1⟩ := h
  have h1' := h1
  obtain ⟨hl, h2⟩ := h1
  refine ⟨h0, ?_⟩
  rcases h2 with ⟨rfl, h2⟩ | ⟨g, cap, cur, rfl, hb, hg, hn, hm, hs, ht⟩
  · have : xs = [] := by simpa using h2
    subst this
    exact ⟨none, 0, rfl, Nat.le_refl _, by unfold maxLen; omega, .inl rfl⟩
  · refine ⟨_, cap, rfl, hn, hm, .inr ⟨g, 0, rfl, fun i hi => ?_⟩⟩
    have := h1'.cells (g := g) rfl i (.int .i64 (gi xs i)) (by simp [hi, gi_lt])
    by_cases h0 : i = 0
    · subst h0; simpa [Addr.add] using this
    · simpa [Addr.add, h0] using this
theorem OwnI.kept {E : TypeId} {w w' : World} {B : Nat} {r : Option Nat} {v : Value} {xs : List Int} (h : OwnI E w B v xs) (hg : Gr w w' r) (hr : v.ownBlock = none ∨ v.ownBlock ≠ r) : OwnI E w' B v xs :=
  ⟨h.1, h.2.kept hg hr⟩
theorem OwnI.on {E : TypeId} {w w' : World} {B : Nat} {v : Value} {xs : List Int} (h : OwnI E w B v xs) (hg : Gr w w' none) : OwnI E w' B v xs :=
  h.kept hg (by cases hv : v.ownBlock <;> simp)
theorem OwnI.lt {E : TypeId} {w : World} {B : Nat} {v : Value} {xs : List Int} (h : OwnI E w B v xs) : ∀ k, v.ownBlock = some k → B ≤ k ∧ k < w.heap.size := h.2.lt
theorem OwnI.mono {E : TypeId} {w : World} {B B' : Nat} {v : Value} {xs : List Int} (h : OwnI E w B v xs) (hB : B' ≤ B) : OwnI E w B' v xs := by
  obtain ⟨h0, h1, h2⟩ := h
  refine ⟨h0, h1, ?_⟩
  rcases h2 with h2 | ⟨g, cap, cur, hv, hb, rest⟩
  · exact .inl h2
  · exact .inr ⟨g, cap, cur, hv, by omega, rest⟩
/-- What a function hands back that makes a slice of integers of its own. -/
def RetI (E : TypeId) (w : World) (xs : List Int) (e : Ending) (w' : World) : Prop := ∃ u, e = .returned u ∧ OwnI E w' w.heap.size u xs ∧ Gr w w' none
/-- The list xs copied up to k, zeros behind. -/
def copyTo (xs : List Int) (k : Nat) : List Value := (List.range xs.length).map fun i => if i < k then Value.int .i64 (gi xs i) else Value.int .i64 0
theorem copyTo_zero (xs : List Int) : copyTo xs 0 = List.replicate xs.length (Value.int .i64 0) := by
  apply List.ext_getElem <;> simp [copyTo]
theorem copyTo_all (xs : List Int) : copyTo xs xs.length = xs.map (Value.int .i64) := by
  apply List.ext_getElem
  · simp [copyTo]
  · intro i h1 h2
    simp [copyTo] at h1
    simp [copyTo, h1, gi_lt]
theorem copyTo_set (xs : List Int) (k : Nat) : (copyTo xs k).set k (Value.int .i64 (gi xs k)) = copyTo xs (k + 1) := by
  apply List.ext_getElem
  · simp [copyTo]
  · intro i h1 h2
    simp [copyTo] at h1
    rw [List.getElem_set]
    by_cases e : k = i
    · subst e; simp [copyTo]
    · simp only [e, if_false, copyTo, List.getElem_map, List.getElem_range]
      by_cases hik : i < k
      · rw [if_pos hik, if_pos (by omega)]
      · rw [if_neg hik, if_neg (by omega)]
theorem copyTo_get (xs : List Int) (k j : Nat) (h : j < xs.length) : ∃ c, (copyTo xs k)[j]? = some c := by
  exact ⟨_, List.getElem?_eq_getElem (by simpa [copyTo] using h)⟩
/-- The first k elements of the two lists are equal. -/
def EqTo (xs ys : List Int) (k : Nat) : Prop := ∀ i, i < k → gi xs i = gi ys i
theorem eqTo_zero (xs ys : List Int) : EqTo xs ys 0 := fun i h => absurd h (Nat.not_lt_zero i)
theorem eqTo_succ {xs ys : List Int} {k : Nat} (h : EqTo xs ys k) (e : gi xs k = gi ys k) : EqTo xs ys (k + 1) := by
  intro i hi
  by_cases e' : i = k
  · rw [e']; exact e
  · exact h i (by omega)
theorem eqTo_all {xs ys : List Int} (hl : xs.length = ys.length) (h : EqTo xs ys xs.length) : decide (xs = ys) = true := by
  simp only [decide_eq_true_eq]
  apply List.ext_getElem hl
  intro i h1 h2
  have := h i h1
  rwa [gi_lt h1, gi_lt h2] at this
theorem eq_no {xs ys : List Int} {k : Nat} (e : ¬ gi xs k = gi ys k) : decide (xs = ys) = false := by
  simp only [decide_eq_false_iff_not]
  intro h; exact e (by rw [h])
theorem eq_no_len {xs ys : List Int} (e : ¬ xs.length = ys.length) : decide (xs = ys) = false := by
  simp only [decide_eq_false_iff_not]
  intro h; exact e (by rw [h])
/-- The marks k, k + 1, .. -/
def marks (k : Int) (n : Nat) : List Int := (List.range n).map fun i => k + (i : Nat)
@[simp] theorem marks_length (k : Int) (n : Nat) : (marks k n).length = n := by simp [marks]
theorem gi_marks {k : Int} {n i : Nat} (h : i < n) : gi (marks k n) i = k + i := by simp [gi, marks, List.getD, h]
theorem marks_i64 {k : Int} {n : Nat} (h0 : 0 ≤ k) (h1 : k ≤ 100000000) (h2 : n ≤ 1048576) : ∀ x ∈ marks k n, I64 x := by
  intro x hx
  simp only [marks, List.mem_map, List.mem_range] at hx
  obtain ⟨i, hi, rfl⟩ := hx
  unfold I64; omega
/-- The list xs, its first j elements overwritten by the marks. -/
def markTo (xs : List Int) (k : Int) (j : Nat) : List Value := (List.range xs.length).map fun i => if i < j then Value.int .i64 (k + (i : Nat)) else Value.int .i64 (gi xs i)
theorem markTo_zero (xs : List Int) (k : Int) : markTo xs k 0 = xs.map (Value.int .i64) := by
  apply List.ext_getElem
  · simp [markTo]
  · intro i h1 h2
    simp [markTo] at h1
    simp [markTo, gi_lt h1]
theorem markTo_all (xs : List Int) (k : Int) : markTo xs k xs.length = (marks k xs.length).map (Value.int .i64) := by
  apply List.ext_getElem
  · simp [markTo]
  · intro i h1 h2
    simp [markTo] at h1
    simp [markTo, marks, h1]
theorem markTo_set (xs : List Int) (k : Int) (j : Nat) : (markTo xs k j).set j (Value.int .i64 (k + (j : Nat))) = markTo xs k (j + 1) := by
  apply List.ext_getElem
  · simp [markTo]
  · intro i h1 h2
    simp [markTo] at h1
    rw [List.getElem_set]
    by_cases e : j = i
    · subst e; simp [markTo]
    · simp only [e, if_false, markTo, List.getElem_map, List.getElem_range]
      by_cases hij : i < j
      · rw [if_pos hij, if_pos (by omega)]
      · rw [if_neg hij, if_neg (by omega)]
theorem markTo_get (xs : List Int) (k : Int) (i j : Nat) (h : j < xs.length) : ∃ c, (markTo xs k i)[j]? = some c :=
  ⟨_, List.getElem?_eq_getElem (by simpa [markTo] using h)⟩
/-- Behind an append to a row of the call's own (laid from B on) nothing that was there has turned. -/
theorem gr_append {w wr w' : World} {B n size : Nat} {E : TypeId} {u : Value} {xs : List Value} {o : Obj} (hg : Gr w wr none) (hown : wr.ownsRow B E size u n xs) (hB : w.heap.size ≤ B) (hgrow : (wr.alloc o).grownBy w' u.ownBlock) : Gr w w' none :=
  gr_trans (gr_alloc hg o) hgrow (fun j e => .inr (Nat.le_trans hB (hown.lt j e).1))
/-- The cells that 'append(out, x)' lays first: one cell, in a block of its own. -/
theorem new_one (w : World) (x : Value) (t : TypeId) : ∀ j u, [x][j]? = some u → (w.alloc (.cells #[x] t)).cell? ((⟨w.heap.size, 0, none⟩ : Addr).add j) = some u := by
  intro j u hj
  match j, hj with
  | 0, hj => simp at hj; subst hj; simp [Addr.add]
  | j + 1, hj => simp at hj
theorem one_int (x : Int) : ∀ u ∈ [Value.int .i64 x], u.oneCell' = true := by
  intro u hu; simp at hu; subst hu; rfl
/-- Two rows, the one laid below B, the other from B on, share no block. -/
theorem apart_lt {v v' : Value} {B : Nat} (h1 : ∀ k, v.ownBlock = some k → k < B) (h2 : ∀ k, v'.ownBlock = some k → B ≤ k) : v.ownBlock = none ∨ v.ownBlock ≠ v'.ownBlock := by
  cases e : v.ownBlock with
  | none => exact .inl rfl
  | some k =>
    right
    intro e'
    have := h1 k e
    have := h2 k e'.symm
    omega
theorem apart_gt {v v' : Value} {B : Nat} (h1 : ∀ k, v.ownBlock = some k → B ≤ k) (h2 : ∀ k, v'.ownBlock = some k → k < B) : v.ownBlock = none ∨ v.ownBlock ≠ v'.ownBlock := by
  cases e : v.ownBlock with
  | none => exact .inl rfl
  | some k =>
    right
    intro e'
    have := h1 k e
    have := h2 k e'.symm
    omega
theorem OwnI.below {E : TypeId} {w w' : World} {B : Nat} {v : Value} {xs : List Int} (h : OwnI E w B v xs) {r : Option Nat} (hg : Gr w w' r) : ∀ k, v.ownBlock = some k → k < w'.heap.size :=
  fun k hk => Nat.lt_of_lt_of_le (h.lt k hk).2 (gr_le hg)
theorem OwnI.above {E : TypeId} {w : World} {B : Nat} {v : Value} {xs : List Int} (h : OwnI E w B v xs) : ∀ k, v.ownBlock = some k → B ≤ k := fun k hk => (h.lt k hk).1
/-- A write to a row of the call's own leaves all that was there. -/
theorem gr_mark {E : TypeId} {w a b : World} {B : Nat} {v : Value} {xs : List Int} (hg : Gr w a none) (h : OwnI E a B v xs) (hB : w.heap.size ≤ B) (k : Gr a b v.ownBlock) : Gr w b none :=
  gr_trans hg k (fun j e => .inr (Nat.le_trans hB (h.lt j e).1))
end Go.Proofs.Ytbmgmolnknnaiaa
