/- Words and small lemmas for the walks: worlds that only grow, and slices that read as lists. No program is in sight. -/
import Derived.WalkKit
import Derived.WalkSpells
import Derived.WalkLawsBesides
import Derived.ProofKit
import Derived.OpenShut
import Derived.ShutString
import Derived.ChangeOld
import Derived.Below
import Derived.Handy
import Derived.Lib.SmallJoins
import Derived.Deep.QuietTactic
import Derived.BigQuiet
namespace Go.Proofs.Ythbambpecoffaaa
open Go.RowKit

theorem hid {p : Prop} (h : p) : Hid p := h

/-! ### Worlds: only block 'row' of the old ones may have turned -/
def Gr (w w' : World) (row : Option Nat) : Prop := w.grownBy w' row
theorem gr_refl (w : World) (row : Option Nat) : Gr w w row := World.grownBy.refl w row
theorem gr_trans {a b c : World} {r s : Option Nat} (h : Gr a b r) (k : Gr b c s) (hs : ∀ j, s = some j → r = some j ∨ a.heap.size ≤ j) : Gr a c r := by
  refine ⟨k.os.trans h.os, k.tape.trans h.tape, k.output.trans h.output, Nat.le_trans h.size k.size, fun j hj hne => ?_⟩
  refine (k.block j (Nat.lt_of_lt_of_le hj h.size) fun e => ?_).trans (h.block j hj hne)
  rcases hs j e.symm with h1 | h1
  · exact hne h1.symm
  · omega
theorem gr_then {a b c : World} {r : Option Nat} (h : Gr a b r) (k : Gr b c none) : Gr a c r := gr_trans h k (by intro j e; cases e)
theorem gr_same {a b c : World} {r : Option Nat} (h : Gr a b r) (k : Gr b c r) : Gr a c r := gr_trans h k (fun _ e => .inl e)
theorem gr_mono {a b : World} {r : Option Nat} (h : Gr a b none) : Gr a b r := ⟨h.os, h.tape, h.output, h.size, fun j hj _ => h.block j hj (by simp)⟩
theorem gr_drew {a b : World} {r : Option Nat} (h : Gr a b r) : Gr a b.drew r := ⟨h.os, h.tape, h.output, h.size, h.block⟩
theorem gr_drewN {a b : World} {r : Option Nat} (h : Gr a b r) (n : Nat) : Gr a (b.drewN n) r := ⟨h.os, h.tape, h.output, h.size, h.block⟩
theorem gr_alloc {a b : World} {r : Option Nat} (h : Gr a b r) (o : Obj) : Gr a (b.alloc o) r := gr_then h (World.grownBy_alloc b o none)
theorem gr_set {a b : World} {r : Option Nat} (h : Gr a b r) {p : Addr} (hp : r = some p.block ∨ a.heap.size ≤ p.block) (u : Value) : Gr a (b.setCell p u) r :=
  gr_trans h (s := some p.block) ⟨rfl, rfl, rfl, by simp, fun j _ hne => Below.heap_setCell _ _ _ _ (fun e => hne (by rw [e]))⟩ (by intro j e; cases e; exact hp)
theorem gr_of_below {a b : World} (h : Below a.heap.size a b) : Gr a b none := ⟨h.os, h.tape, h.output, h.size, fun j hj _ => h.block j hj⟩
theorem below_of_gr {a b : World} {r : Option Nat} (h : Gr a b r) {B : Nat} (hB : B ≤ a.heap.size) (hr : ∀ j, r = some j → B ≤ j) : Below B a b :=
  ⟨h.os, h.tape, h.output, h.size, fun j hj => h.block j (by omega) (fun e => by have := hr j e.symm; omega)⟩
theorem gr_below {a b : World} (h : Gr a b none) : Below a.heap.size a b := below_of_gr h (Nat.le_refl _) (by intro j e; cases e)
theorem gr_le {a b : World} {r : Option Nat} (h : Gr a b r) : a.heap.size ≤ b.heap.size := h.size
theorem gr_cell {W w1 : World} (hb : Gr W w1 none) : ∀ b o, b < W.heap.size → w1.cell? ⟨b, o, none⟩ = W.cell? ⟨b, o, none⟩ := fun b o h => (gr_below hb).cell (p := ⟨b, o, none⟩) h
theorem gr_frozen {W w1 : World} (hb : Gr W w1 none) : ∀ b o, b < W.heap.size → w1.frozen? ⟨b, o, none⟩ = W.frozen? ⟨b, o, none⟩ := fun b o h => (gr_below hb).frozen (p := ⟨b, o, none⟩) h
theorem gr_cellr {W w1 : World} {r : Option Nat} (hb : Gr W w1 r) {b o : Nat} (h : b < W.heap.size) (hr : r ≠ some b) : w1.cell? ⟨b, o, none⟩ = W.cell? ⟨b, o, none⟩ :=
  World.cell?_of_block (hb.block b h (fun e => hr e.symm))
theorem gr_frozenr {W w1 : World} {r : Option Nat} (hb : Gr W w1 r) {b o : Nat} (h : b < W.heap.size) (hr : r ≠ some b) : w1.frozen? ⟨b, o, none⟩ = W.frozen? ⟨b, o, none⟩ :=
  World.frozen?_of_block (hb.block b h (fun e => hr e.symm))

/-! ### Numbers -/
/-- n lies in the range, both ends included. -/
def inB (n lo hi : Int) : Bool := decide (lo ≤ n) && decide (n ≤ hi)
theorem inB_true {n lo hi : Int} (h : inB n lo hi = true) : lo ≤ n ∧ n ≤ hi := by simpa [inB] using h
theorem inB_false {n lo hi : Int} (h : inB n lo hi = false) : ¬ (lo ≤ n ∧ n ≤ hi) := by
  intro ⟨a, b⟩; simp [inB, a, b] at h
theorem inB_mk {n lo hi : Int} (h : lo ≤ n ∧ n ≤ hi) : inB n lo hi = true := by simp [inB, h.1, h.2]
theorem inB_no {n lo hi : Int} (h : ¬ (lo ≤ n ∧ n ≤ hi)) : inB n lo hi = false := by
  cases e : inB n lo hi
  · rfl
  · exact absurd (inB_true e) h
/-- The number fits int64. -/
def I64 (n : Int) : Prop := -9223372036854775808 ≤ n ∧ n ≤ 9223372036854775807
theorem i64_of_wf {n : Int} (h : (Lit.int .i64 n).wf = true) : I64 n := bounds_i64 h
theorem ret_int {k : IntKind} {a b : Int} (h : a = b) : Ending.returned (.int k a) = .returned (.int k b) := by rw [h]
theorem ret_bool {a b : Bool} (h : a = b) : Ending.returned (.bool a) = .returned (.bool b) := by rw [h]

/-! ### Slices of integers -/
/-- Element i of a list of integers, 0 behind its end. -/
def gi (xs : List Int) (i : Nat) : Int := xs.getD i 0
theorem gi_lt {xs : List Int} {i : Nat} (h : i < xs.length) : gi xs i = xs[i] := by simp [gi, List.getD, h]
theorem gi_mem {xs : List Int} {i : Nat} (h : i < xs.length) : gi xs i ∈ xs := by rw [gi_lt h]; exact List.getElem_mem h

/-- From offset 'off' of block b on lie the integers xs. -/
def IntsAt (w : World) (b off : Nat) (xs : List Int) : Prop := ∀ i, i < xs.length → w.cell? ⟨b, off + i, none⟩ = some (.int .i64 (gi xs i))
/-- The slice v reads as the integers xs. -/
def Ints (w : World) (v : Value) (xs : List Int) : Prop :=
  (∀ x ∈ xs, I64 x) ∧ ∃ a cap, v = .slice a xs.length cap ∧ xs.length ≤ cap ∧ cap ≤ maxLen ∧ (xs = [] ∨ ∃ b off, a = some ⟨b, off, none⟩ ∧ IntsAt w b off xs)
theorem IntsAt.cell {w : World} {b off : Nat} {xs : List Int} (h : IntsAt w b off xs) {i : Nat} (hi : i < xs.length) : w.cell? ⟨b, off + i, none⟩ = some (.int .i64 (gi xs i)) := h i hi
theorem IntsAt.lt {w : World} {b off : Nat} {xs : List Int} (h : IntsAt w b off xs) (hx : xs ≠ []) : b < w.heap.size := by
  have h0 := h 0 (by cases xs; exact absurd rfl hx; simp)
  exact World.block_lt_of_cell? w _ h0
theorem IntsAt.kept {w w' : World} {r : Option Nat} {b off : Nat} {xs : List Int} (h : IntsAt w b off xs) (hg : Gr w w' r) (hr : r ≠ some b) : IntsAt w' b off xs := by
  intro i hi
  have hb : b < w.heap.size := World.block_lt_of_cell? w _ (h i hi)
  rw [gr_cellr hg hb hr]; exact h i hi
theorem Ints.kept {w w' : World} {r : Option Nat} {v : Value} {xs : List Int} (h : Ints w v xs) (hg : Gr w w' r) (hr : ∀ j, r = some j → v.ownBlock ≠ some j) : Ints w' v xs := by
  obtain ⟨h1, a, cap, rfl, h2, h3, h4⟩ := h
  refine ⟨h1, a, cap, rfl, h2, h3, ?_⟩
  rcases h4 with h4 | ⟨b, off, rfl, h4⟩
  · exact .inl h4
  · refine .inr ⟨b, off, rfl, h4.kept hg fun e => ?_⟩
    exact hr b e rfl
theorem Ints.on {w w' : World} {v : Value} {xs : List Int} (h : Ints w v xs) (hg : Gr w w' none) : Ints w' v xs := h.kept hg (by intro j e; cases e)
theorem Ints.bd {w : World} {v : Value} {xs : List Int} (h : Ints w v xs) {i : Nat} (hi : i < xs.length) : I64 (gi xs i) := h.1 _ (gi_mem hi)
/-- A row that the call itself made, as a slice of integers. E: the number of the type int. -/
def OwnI (E : TypeId) (w : World) (B : Nat) (v : Value) (xs : List Int) : Prop := (∀ x ∈ xs, I64 x) ∧ w.ownsRow B E 1 v xs.length (xs.map (Value.int .i64))
theorem OwnI.ints {E : TypeId} {w : World} {B : Nat} {v : Value} {xs : List Int} (h : OwnI E w B v xs) : Ints w v xs := by
  obtain ⟨h0, h1⟩ := h
  have h1' := h1
  obtain ⟨hl, h2⟩ := h1
  refine ⟨h0, ?_⟩
  rcases h2 with ⟨rfl, h2⟩ | ⟨g, cap, cur, rfl, hb, hg, hn, hm, hs, ht⟩
  · have : xs = [] := by simpa using h2
    subst this
    exact ⟨none, 0, rfl, Nat.le_refl _, by unfold maxLen; omega, .inl rfl⟩
  · refine ⟨_, cap, rfl, hn, hm, .inr ⟨g, 0, rfl, fun i hi => ?_⟩⟩
    have := h1'.cells (g := g) rfl i (.int .i64 (gi xs i)) (by simp [hi, gi_lt])
    by_cases h0 : i = 0
    · subst h0; simpa [Addr.add] using this
    · simpa [Addr.add, h0] using this
theorem OwnI.kept {E : TypeId} {w w' : World} {B : Nat} {r : Option Nat} {v : Value} {xs : List Int} (h : OwnI E w B v xs) (hg : Gr w w' r) (hr : v.ownBlock = none ∨ v.ownBlock ≠ r) : OwnI E w' B v xs :=
  ⟨h.1, h.2.kept hg hr⟩
theorem OwnI.on {E : TypeId} {w w' : World} {B : Nat} {v : Value} {xs : List Int} (h : OwnI E w B v xs) (hg : Gr w w' none) : OwnI E w' B v xs :=
  h.kept hg (by cases hv : v.ownBlock <;> simp)
theorem OwnI.lt {E : TypeId} {w : World} {B : Nat} {v : Value} {xs : List Int} (h : OwnI E w B v xs) : ∀ k, v.ownBlock = some k → B ≤ k ∧ k < w.heap.size := h.2.lt
theorem OwnI.mono {E : TypeId} {w : World} {B B' : Nat} {v : Value} {xs : List Int} (h : OwnI E w B v xs) (hB : B' ≤ B) : OwnI E w B' v xs := by
  obtain ⟨h0, h1, h2⟩ := h
  refine ⟨h0, h1, ?_⟩
  rcases h2 with h2 | ⟨g, cap, cur, hv, hb, rest⟩
  · exact .inl h2
  · exact .inr ⟨g, cap, cur, hv, by omega, rest⟩
end Go.Proofs.Ythbambpecoffaaa
