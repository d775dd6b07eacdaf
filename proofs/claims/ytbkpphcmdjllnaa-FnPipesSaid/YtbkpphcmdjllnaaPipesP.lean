/- Ways through a net of pipes: plain laws. -/
import Derived.Test.YtbkpphcmdjllnaaNet3
namespace Go.Proofs.Ytbkpphcmdjllnaa
open Go.RowKit

/-! ### Sets of places as numbers -/
def stepM (w : Int) (m : Nat) (t : Tri) : Nat := if w ≤ t.2.2 ∧ m.testBit t.1.toNat = true then m ||| 2 ^ t.2.1.toNat else m
/-- The set behind k pipes of one round. -/
def rowM (ts : List Tri) (w : Int) (m : Nat) : Nat → Nat
  | 0 => m
  | k + 1 => stepM w (rowM ts w m k) (gt ts k)
/-- The set behind i rounds. -/
def reachM (ts : List Tri) (w : Int) (a : Nat) : Nat → Nat
  | 0 => 2 ^ a
  | i + 1 => rowM ts w (reachM ts w a i) ts.length
/-- p can be reached from a along n pipes at least w wide. -/
def PathN (ts : List Tri) (w : Int) (a : Nat) : Nat → Nat → Prop
  | 0, p => p = a
  | n + 1, p => ∃ t, t ∈ ts ∧ w ≤ t.2.2 ∧ p = t.2.1.toNat ∧ PathN ts w a n t.1.toNat
/-- p can be reached from a along pipes at least w wide. -/
def Path (ts : List Tri) (w : Int) (a p : Nat) : Prop := ∃ n, PathN ts w a n p
theorem Path.refl {ts : List Tri} {w : Int} {a : Nat} : Path ts w a a := ⟨0, rfl⟩
theorem Path.step {ts : List Tri} {w : Int} {a b : Nat} {t : Tri} (h : Path ts w a b) (ht : t ∈ ts) (hf : t.1.toNat = b) (hw : w ≤ t.2.2) : Path ts w a t.2.1.toNat := by
  obtain ⟨n, h⟩ := h
  exact ⟨n + 1, t, ht, hw, rfl, by rw [hf]; exact h⟩
theorem Path.ind {ts : List Tri} {w : Int} {a : Nat} {motive : ∀ p, Path ts w a p → Prop} (refl : motive a .refl)
    (step : ∀ {b : Nat} {t : Tri} (h : Path ts w a b) (ht : t ∈ ts) (hf : t.1.toNat = b) (hw : w ≤ t.2.2), motive b h → motive _ (.step h ht hf hw)) {p : Nat} (h : Path ts w a p) : motive p h := by
  obtain ⟨n, hn⟩ := h
  induction n generalizing p with
  | zero =>
    obtain rfl : p = a := hn
    exact refl
  | succ n ih =>
    obtain ⟨t, ht, hw, rfl, hp⟩ := hn
    exact step ⟨n, hp⟩ ht rfl hw (ih hp)
theorem stepM_keep {w : Int} {m : Nat} {t : Tri} {p : Nat} (h : m.testBit p = true) : (stepM w m t).testBit p = true := by
  unfold stepM
  split
  · rw [Nat.testBit_or, h]; rfl
  · exact h
theorem stepM_add {w : Int} {m : Nat} {t : Tri} (h1 : w ≤ t.2.2) (h2 : m.testBit t.1.toNat = true) : (stepM w m t).testBit t.2.1.toNat = true := by
  rw [stepM, if_pos ⟨h1, h2⟩, Nat.testBit_or, Nat.testBit_two_pow_self, Bool.or_true]
theorem stepM_get {w : Int} {m : Nat} {t : Tri} {p : Nat} (h : (stepM w m t).testBit p = true) : m.testBit p = true ∨ (w ≤ t.2.2 ∧ m.testBit t.1.toNat = true ∧ p = t.2.1.toNat) := by
  unfold stepM at h
  split at h
  · rename_i hc
    rw [Nat.testBit_or, Bool.or_eq_true] at h
    rcases h with h | h
    · exact .inl h
    · rw [Nat.testBit_two_pow] at h
      exact .inr ⟨hc.1, hc.2, by simpa using (of_decide_eq_true h).symm⟩
  · exact .inl h
theorem rowM_keep {ts : List Tri} {w : Int} {m p : Nat} (h : m.testBit p = true) : ∀ k, (rowM ts w m k).testBit p = true
  | 0 => h
  | k + 1 => stepM_keep (rowM_keep h k)
theorem rowM_mono {ts : List Tri} {w : Int} {m p : Nat} {j : Nat} (h : (rowM ts w m j).testBit p = true) : ∀ k, j ≤ k → (rowM ts w m k).testBit p = true
  | 0, hk => by obtain rfl : j = 0 := by omega
                exact h
  | k + 1, hk => by
    by_cases e : j = k + 1
    · subst e; exact h
    · exact stepM_keep (rowM_mono h k (by omega))
theorem rowM_path {ts : List Tri} {w : Int} {a m : Nat} (hm : ∀ p, m.testBit p = true → Path ts w a p) : ∀ k, k ≤ ts.length → ∀ p, (rowM ts w m k).testBit p = true → Path ts w a p
  | 0, _, p, h => hm p h
  | k + 1, hk, p, h => by
    rcases stepM_get h with h | ⟨h1, h2, rfl⟩
    · exact rowM_path hm k (by omega) p h
    · exact .step (rowM_path hm k (by omega) _ h2) (gt_mem (by omega)) rfl h1
theorem reachM_path {ts : List Tri} {w : Int} {a : Nat} : ∀ i p, (reachM ts w a i).testBit p = true → Path ts w a p
  | 0, p, h => by
    rw [reachM, Nat.testBit_two_pow] at h
    have : a = p := of_decide_eq_true h
    subst this; exact .refl
  | i + 1, p, h => rowM_path (reachM_path i) ts.length (Nat.le_refl _) p h
/-! ### A round that adds nothing has all -/
def card (m : Nat) : Nat → Nat
  | 0 => 0
  | n + 1 => card m n + if m.testBit n then 1 else 0
theorem card_le (m : Nat) : ∀ n, card m n ≤ n
  | 0 => Nat.le_refl _
  | n + 1 => by have := card_le m n; unfold card; split <;> omega
theorem card_mono {m m' : Nat} (h : ∀ p, m.testBit p = true → m'.testBit p = true) : ∀ n, card m n ≤ card m' n
  | 0 => Nat.le_refl _
  | n + 1 => by
    have ih := card_mono h n
    unfold card
    by_cases e : m.testBit n = true
    · rw [if_pos e, if_pos (h n e)]; omega
    · rw [if_neg e]; omega
theorem card_lt {m m' : Nat} (h : ∀ p, m.testBit p = true → m'.testBit p = true) {q : Nat} (h1 : m'.testBit q = true) (h2 : ¬ m.testBit q = true) : ∀ n, q < n → card m n < card m' n
  | 0, hq => by omega
  | n + 1, hq => by
    unfold card
    by_cases e : q = n
    · subst e
      rw [if_neg h2, if_pos h1]
      have := card_mono h q; omega
    · have ih := card_lt h h1 h2 n (by omega)
      by_cases e' : m.testBit n = true
      · rw [if_pos e', if_pos (h n e')]; omega
      · rw [if_neg e']; omega
theorem card_pos {m a : Nat} (h : m.testBit a = true) : ∀ n, a < n → 1 ≤ card m n
  | 0, hq => by omega
  | n + 1, hq => by
    unfold card
    by_cases e : a = n
    · subst e; rw [if_pos h]; omega
    · have := card_pos h n (by omega); omega
/-- All pipes lie between places below n. -/
def InN (n : Nat) (ts : List Tri) : Prop := ∀ t ∈ ts, t.1.toNat < n ∧ t.2.1.toNat < n
theorem path_lt {n : Nat} {ts : List Tri} {w : Int} {a p : Nat} (hn : InN n ts) (ha : a < n) (h : Path ts w a p) : p < n := by
  induction h using Path.ind with
  | refl => exact ha
  | step _ ht _ _ _ => exact (hn _ ht).2
theorem reachM_grows {ts : List Tri} {w : Int} {a i p : Nat} (h : (reachM ts w a i).testBit p = true) : (reachM ts w a (i + 1)).testBit p = true := rowM_keep h _
theorem reachM_self {ts : List Tri} {w : Int} {a : Nat} : ∀ i, (reachM ts w a i).testBit a = true
  | 0 => Nat.testBit_two_pow_self
  | i + 1 => reachM_grows (reachM_self i)
theorem reachM_same {ts : List Tri} {w : Int} {a j : Nat} (h : reachM ts w a (j + 1) = reachM ts w a j) : ∀ i, j ≤ i → reachM ts w a i = reachM ts w a j
  | 0, hi => by obtain rfl : j = 0 := by omega
                rfl
  | i + 1, hi => by
    by_cases e : j = i + 1
    · subst e; rfl
    · have ih := reachM_same h i (by omega)
      rw [reachM, ih]
      exact h
theorem reach_count {n : Nat} {ts : List Tri} {w : Int} {a : Nat} (hn : InN n ts) (ha : a < n) : ∀ i, (∃ j, j < i ∧ reachM ts w a (j + 1) = reachM ts w a j) ∨ i + 1 ≤ card (reachM ts w a i) n
  | 0 => .inr (card_pos (reachM_self 0) n ha)
  | i + 1 => by
    rcases reach_count (w := w) hn ha i with ⟨j, hj, h⟩ | h
    · exact .inl ⟨j, by omega, h⟩
    · by_cases e : reachM ts w a (i + 1) = reachM ts w a i
      · exact .inl ⟨i, by omega, e⟩
      · right
        obtain ⟨q, hq⟩ : ∃ q, ¬ ((reachM ts w a (i + 1)).testBit q = (reachM ts w a i).testBit q) := by
          refine Classical.byContradiction fun hno => e (Nat.eq_of_testBit_eq fun q => ?_)
          exact Classical.byContradiction fun hc => hno ⟨q, hc⟩
        have h2 : ¬ (reachM ts w a i).testBit q = true := fun h2 => hq (by rw [h2, reachM_grows h2])
        have h1 : (reachM ts w a (i + 1)).testBit q = true := by
          cases hx : (reachM ts w a (i + 1)).testBit q
          · exact absurd (by rw [hx]; simpa using h2) hq
          · rfl
        have := card_lt (fun p => reachM_grows) h1 h2 n (path_lt hn ha (reachM_path _ _ h1))
        omega
theorem reach_all {n : Nat} {ts : List Tri} {w : Int} {a p : Nat} (hn : InN n ts) (ha : a < n) (h : Path ts w a p) : (reachM ts w a n).testBit p = true := by
  obtain ⟨j, hj, hs⟩ : ∃ j, j < n ∧ reachM ts w a (j + 1) = reachM ts w a j := by
    rcases reach_count (w := w) hn ha n with h | h
    · exact h
    · have := card_le (reachM ts w a n) n; omega
  rw [reachM_same hs n (by omega)]
  induction h using Path.ind with
  | refl => exact reachM_self _
  | step _ ht hf hw ih =>
    obtain ⟨k, hk, rfl⟩ := List.mem_iff_getElem.1 ht
    rw [← hs, reachM]
    have hgt : gt ts k = ts[k] := gt_lt hk
    refine rowM_mono (j := k + 1) ?_ _ hk
    show (stepM w _ (gt ts k)).testBit _ = true
    rw [← hgt] at hw hf ⊢
    refine stepM_add hw ?_
    rw [hf]
    exact rowM_keep ih k
/-- What the program's rounds reach is what can be reached. -/
theorem reach_iff {n : Nat} {ts : List Tri} {w : Int} {a p : Nat} (hn : InN n ts) (ha : a < n) : (reachM ts w a n).testBit p = true ↔ Path ts w a p := ⟨reachM_path _ _, reach_all hn ha⟩
/-! ### Paths -/
theorem Path.wide {ts : List Tri} {w w' : Int} {a p : Nat} (h : Path ts w a p) (hw : w' ≤ w) : Path ts w' a p := by
  induction h using Path.ind with
  | refl => exact .refl
  | step _ ht hf hx ih => exact .step ih ht hf (by omega)
theorem Path.more {ts ts' : List Tri} {w : Int} {a p : Nat} (h : Path ts w a p) (hs : ∀ t ∈ ts, t ∈ ts') : Path ts' w a p := by
  induction h using Path.ind with
  | refl => exact .refl
  | step _ ht hf hx ih => exact .step ih (hs _ ht) hf hx
theorem Path.head {ts : List Tri} {w : Int} {a c p : Nat} {t : Tri} (ht : t ∈ ts) (hf : t.1.toNat = a) (hc : t.2.1.toNat = c) (hw : w ≤ t.2.2) (h : Path ts w c p) : Path ts w a p := by
  induction h using Path.ind with
  | refl => rw [← hc]; exact .step .refl ht hf hw
  | step _ ht' hf' hx ih => exact .step ih ht' hf' hx
def turnT (t : Tri) : Tri := (t.2.1, t.1, t.2.2)
theorem path_turn {ts : List Tri} {w : Int} {a p : Nat} (h : Path ts w a p) : Path (ts.map turnT) w p a := by
  induction h using Path.ind with
  | refl => exact .refl
  | step _ ht hf hx ih => exact Path.head (List.mem_map.2 ⟨_, ht, rfl⟩) rfl hf hx ih
theorem turn_turn (ts : List Tri) : (ts.map turnT).map turnT = ts := by
  rw [List.map_map]
  have : turnT ∘ turnT = id := funext fun t => rfl
  rw [this, List.map_id]
/-- The first pipe of a way. -/
theorem path_first {ts : List Tri} {w : Int} {a p : Nat} (h : Path ts w a p) : p = a ∨ ∃ t ∈ ts, t.1.toNat = a ∧ w ≤ t.2.2 := by
  induction h using Path.ind with
  | refl => exact .inl rfl
  | step _ ht hf hx ih =>
    rcases ih with h | h
    · exact .inr ⟨_, ht, by rw [hf, h], hx⟩
    · exact .inr h
/-- The narrowest pipe of a way. -/
theorem path_narrow {ts : List Tri} {w : Int} {a p : Nat} (h : Path ts w a p) : p = a ∨ ∃ t ∈ ts, w ≤ t.2.2 ∧ Path ts t.2.2 a p := by
  induction h using Path.ind with
  | refl => exact .inl rfl
  | @step b t h ht hf hx ih =>
    right
    rcases ih with h' | ⟨t', ht', hw', hp'⟩
    · exact ⟨t, ht, hx, .step (by rw [h']; exact .refl) ht hf (Int.le_refl _)⟩
    · by_cases hc : t'.2.2 ≤ t.2.2
      · exact ⟨t', ht', hw', .step hp' ht hf hc⟩
      · exact ⟨t, ht, hx, .step (hp'.wide (by omega)) ht hf (Int.le_refl _)⟩
/-! ### The widest way -/
structure Wide (ts : List Tri) (a b : Nat) (W : Int) : Prop where
  some : W = 0 ∨ ∃ t ∈ ts, W = t.2.2 ∧ Path ts W a b
  top : ∀ t ∈ ts, Path ts t.2.2 a b → t.2.2 ≤ W
def bestTo (n : Nat) (ts : List Tri) (a b : Nat) : Nat → Int
  | 0 => 0
  | k + 1 => if bestTo n ts a b k < (gt ts k).2.2 ∧ (reachM ts (gt ts k).2.2 a n).testBit b = true then (gt ts k).2.2 else bestTo n ts a b k
theorem bestTo_ok {n : Nat} {ts : List Tri} {a b : Nat} (hn : InN n ts) (ha : a < n) : ∀ k, k ≤ ts.length → (bestTo n ts a b k = 0 ∨ ∃ t ∈ ts, bestTo n ts a b k = t.2.2 ∧ Path ts (bestTo n ts a b k) a b) ∧ ∀ i, i < k → Path ts (gt ts i).2.2 a b → (gt ts i).2.2 ≤ bestTo n ts a b k
  | 0, _ => ⟨.inl rfl, fun i h => absurd h (Nat.not_lt_zero i)⟩
  | k + 1, hk => by
    obtain ⟨h1, h2⟩ := bestTo_ok (b := b) hn ha k (by omega)
    unfold bestTo
    split
    · rename_i hc
      refine ⟨.inr ⟨_, gt_mem (by omega), rfl, (reach_iff hn ha).1 hc.2⟩, fun i hi hp => ?_⟩
      by_cases e : i = k
      · subst e; exact Int.le_refl _
      · have := h2 i (by omega) hp; omega
    · rename_i hc
      refine ⟨h1, fun i hi hp => ?_⟩
      by_cases e : i = k
      · subst e
        have := (reach_iff hn ha).2 hp
        exact Int.not_lt.1 fun hlt => hc ⟨hlt, this⟩
      · exact h2 i (by omega) hp
theorem best_wide {n : Nat} {ts : List Tri} {a b : Nat} (hn : InN n ts) (ha : a < n) : Wide ts a b (bestTo n ts a b ts.length) := by
  obtain ⟨h1, h2⟩ := bestTo_ok (b := b) hn ha ts.length (Nat.le_refl _)
  refine ⟨h1, fun t ht hp => ?_⟩
  obtain ⟨i, hi, rfl⟩ := List.mem_iff_getElem.1 ht
  have := h2 i hi
  rw [gt_lt hi] at this
  exact this hp
/-- Fewer pipes, no wider way. -/
theorem wide_less {ts ts' : List Tri} {a b : Nat} {W W' : Int} (h : Wide ts a b W) (h' : Wide ts' a b W') (hs : ∀ t ∈ ts', t ∈ ts) (h0 : 0 ≤ W) : W' ≤ W := by
  rcases h'.some with e | ⟨t, ht, e, hp⟩
  · omega
  · rw [e]
    exact h.top t (hs t ht) (by rw [← e]; exact hp.more hs)
theorem wide_pos {ts : List Tri} {a b : Nat} {W : Int} (h : Wide ts a b W) (h1 : ∀ t ∈ ts, 1 ≤ t.2.2) : 0 ≤ W := by
  rcases h.some with e | ⟨t, ht, e, _⟩
  · omega
  · have := h1 t ht; omega
theorem wide_turn {ts : List Tri} {a b : Nat} {W W' : Int} (h : Wide ts a b W) (h' : Wide (ts.map turnT) b a W') (h1 : ∀ t ∈ ts, 1 ≤ t.2.2) : W' = W := by
  have hpos := wide_pos h h1
  have hpos' : 0 ≤ W' := wide_pos h' fun t ht => by
    obtain ⟨t', ht', rfl⟩ := List.mem_map.1 ht
    exact h1 t' ht'
  have hle : W' ≤ W := by
    rcases h'.some with e | ⟨t, ht, e, hp⟩
    · omega
    · obtain ⟨t', ht', rfl⟩ := List.mem_map.1 ht
      rw [e] at hp ⊢
      have := path_turn hp
      rw [turn_turn] at this
      exact h.top t' ht' this
  have hge : W ≤ W' := by
    rcases h.some with e | ⟨t, ht, e, hp⟩
    · omega
    · rw [e] at hp ⊢
      exact h'.top (turnT t) (List.mem_map.2 ⟨t, ht, rfl⟩) (path_turn hp)
  omega
theorem wide_has {ts : List Tri} {a b : Nat} {W : Int} (h : Wide ts a b W) (_h1 : ∀ t ∈ ts, 1 ≤ t.2.2) (hab : b ≠ a) : 0 < W ↔ Path ts 1 a b := by
  constructor
  · intro hw
    rcases h.some with e | ⟨t, ht, e, hp⟩
    · omega
    · exact hp.wide (by omega)
  · intro hp
    rcases path_narrow hp with e | ⟨t, ht, hw, hp'⟩
    · exact absurd e hab
    · have := h.top t ht hp'; omega
/-! ### What leaves the places -/
theorem outTo_ge {ts : List Tri} {p : Int} (h1 : ∀ t ∈ ts, 1 ≤ t.2.2) : ∀ k, k ≤ ts.length → 0 ≤ outTo ts p k ∧ ∀ i, i < k → (gt ts i).1 = p → (gt ts i).2.2 ≤ outTo ts p k
  | 0, _ => ⟨Int.le_refl _, fun i h => absurd h (Nat.not_lt_zero i)⟩
  | k + 1, hk => by
    obtain ⟨a, b⟩ := outTo_ge (p := p) h1 k (by omega)
    have hw := h1 _ (gt_mem (ps := ts) (i := k) (by omega))
    unfold outTo
    split
    · rename_i hp
      refine ⟨by omega, fun i hi e => ?_⟩
      by_cases e' : i = k
      · subst e'; omega
      · have := b i (by omega) e; omega
    · rename_i hp
      refine ⟨a, fun i hi e => ?_⟩
      by_cases e' : i = k
      · subst e'; exact absurd e hp
      · exact b i (by omega) e
/-- The sums over the first m places, over the first k widths. -/
def sumOut (ts : List Tri) (k : Nat) : Nat → Int
  | 0 => 0
  | m + 1 => sumOut ts k m + outTo ts m k
def sumW (ts : List Tri) : Nat → Int
  | 0 => 0
  | k + 1 => sumW ts k + (gt ts k).2.2
theorem sumOut_succ (ts : List Tri) (k : Nat) (h0 : 0 ≤ (gt ts k).1) : ∀ m, sumOut ts (k + 1) m = sumOut ts k m + if (gt ts k).1.toNat < m then (gt ts k).2.2 else 0
  | 0 => by simp [sumOut]
  | m + 1 => by
    rw [sumOut, sumOut, sumOut_succ ts k h0 m, outTo]
    by_cases e : (gt ts k).1.toNat = m
    · have e' : (gt ts k).1 = (m : Int) := by omega
      rw [if_neg (show ¬ (gt ts k).1.toNat < m by omega), if_pos e', if_pos (show (gt ts k).1.toNat < m + 1 by omega)]; omega
    · have e' : ¬ (gt ts k).1 = (m : Int) := by omega
      by_cases h : (gt ts k).1.toNat < m
      · rw [if_pos h, if_neg e', if_pos (show (gt ts k).1.toNat < m + 1 by omega)]; omega
      · rw [if_neg h, if_neg e', if_neg (show ¬ (gt ts k).1.toNat < m + 1 by omega)]; omega
theorem sumOut_zero (ts : List Tri) : ∀ m, sumOut ts 0 m = 0
  | 0 => rfl
  | m + 1 => by rw [sumOut, sumOut_zero ts m]; rfl
theorem sumOut_all {n : Nat} {ts : List Tri} (hn : InN n ts) (h0 : ∀ t ∈ ts, 0 ≤ t.1) : ∀ k, k ≤ ts.length → sumOut ts k n = sumW ts k
  | 0, _ => sumOut_zero ts n
  | k + 1, hk => by
    have hm := gt_mem (ps := ts) (i := k) (by omega)
    rw [sumOut_succ ts k (h0 _ hm) n, sumOut_all hn h0 k (by omega), sumW, if_pos (hn _ hm).1]
theorem sumW_turn (ts : List Tri) : ∀ k, k ≤ ts.length → sumW (ts.map turnT) k = sumW ts k
  | 0, _ => rfl
  | k + 1, hk => by
    rw [sumW, sumW, sumW_turn ts k (by omega)]
    have : gt (ts.map turnT) k = turnT (gt ts k) := by rw [gt_lt (show k < (ts.map turnT).length by rw [List.length_map]; omega), gt_lt (show k < ts.length by omega), List.getElem_map]
    rw [this]; rfl
end Go.Proofs.Ytbkpphcmdjllnaa
