/- A year day by day, with no program in sight. -/
import Derived.Test.YtmnfainepmnpeaaYear
namespace Go.Proofs.Ytmnfainepmnpeaa
open Go.RowKit

/-- The level behind k days. -/
def levAt (r s n : Int) (xs : List Int) : Nat → Int
  | 0 => s
  | k + 1 => takeL r (pourL r (levAt r s n xs k) (gi xs k)) n
/-- What runs over on day k, and what is drawn. -/
def lostAt (r s n : Int) (xs : List Int) (k : Nat) : Int := pourO r (levAt r s n xs k) (gi xs k)
def drawnAt (r s n : Int) (xs : List Int) (k : Nat) : Int := takeO r (pourL r (levAt r s n xs k) (gi xs k)) n
theorem cistB_mk {r l : Int} (h1 : 1 ≤ r) (h2 : r ≤ 1000000) (h3 : 0 ≤ l) (h4 : l ≤ r) : cistB r l = true := by rw [cistB, inB_mk ⟨h1, h2⟩, inB_mk ⟨h3, h4⟩]; rfl
theorem pour_eq {r l x : Int} (h : cistB r l = true) (h0 : 0 ≤ x) (h1 : x ≤ 1000000) : pourL r l x = min r (l + x) ∧ pourO r l x = l + x - min r (l + x) := by
  have e : pourOk r l x = true := by rw [pourOk, h, inB_mk ⟨h0, h1⟩]; rfl
  rw [pourL, pourO, if_pos e, if_pos e]
  split <;> omega
theorem take_eq {r l x : Int} (h : cistB r l = true) (h0 : 0 ≤ x) (h1 : x ≤ 1000000) : takeL r l x = l - min l x ∧ takeO r l x = min l x := by
  have e : pourOk r l x = true := by rw [pourOk, h, inB_mk ⟨h0, h1⟩]; rfl
  rw [takeL, takeO, if_pos e, if_pos e]
  split <;> omega
/-- A day's law: what came in, is lost, drawn or there. -/
theorem day_law {r s n : Int} {xs : List Int} (h : yearB r s xs n = true) : ∀ k, k ≤ xs.length → (0 ≤ levAt r s n xs k ∧ levAt r s n xs k ≤ r) ∧
    (k < xs.length → levAt r s n xs (k + 1) = min r (levAt r s n xs k + gi xs k) - drawnAt r s n xs k ∧ drawnAt r s n xs k = min (min r (levAt r s n xs k + gi xs k)) n ∧ lostAt r s n xs k = levAt r s n xs k + gi xs k - min r (levAt r s n xs k + gi xs k)) := by
  obtain ⟨hr, hs, hl, hx, hn⟩ := yearB_parts h
  intro k
  induction k with
  | zero =>
    intro _
    refine ⟨hs, fun h0 => ?_⟩
    have hc : cistB r (levAt r s n xs 0) = true := cistB_mk hr.1 hr.2 hs.1 hs.2
    have hx0 := hx 0 h0
    obtain ⟨p1, p2⟩ := pour_eq hc hx0.1 (by omega)
    have hc2 : cistB r (pourL r (levAt r s n xs 0) (gi xs 0)) = true := cistB_mk hr.1 hr.2 (by rw [p1]; have := hs; simp only [levAt]; omega) (by rw [p1]; omega)
    obtain ⟨t1, t2⟩ := take_eq hc2 hn.1 hn.2
    refine ⟨?_, ?_, ?_⟩
    · show takeL _ _ _ = _ - drawnAt r s n xs 0
      rw [drawnAt, t1, t2, p1]
    · rw [drawnAt, t2, p1]
    · rw [lostAt, p2]
  | succ k ih =>
    intro hk
    obtain ⟨⟨i1, i2⟩, i3⟩ := ih (by omega)
    obtain ⟨j1, j2, j3⟩ := i3 (by omega)
    have hxk := hx k (by omega)
    have hb : 0 ≤ levAt r s n xs (k + 1) ∧ levAt r s n xs (k + 1) ≤ r := by rw [j1, j2]; omega
    refine ⟨hb, fun h0 => ?_⟩
    have hc : cistB r (levAt r s n xs (k + 1)) = true := cistB_mk hr.1 hr.2 hb.1 hb.2
    have hx0 := hx (k + 1) h0
    obtain ⟨p1, p2⟩ := pour_eq hc hx0.1 (by omega)
    have hc2 : cistB r (pourL r (levAt r s n xs (k + 1)) (gi xs (k + 1))) = true := cistB_mk hr.1 hr.2 (by rw [p1]; omega) (by rw [p1]; omega)
    obtain ⟨t1, t2⟩ := take_eq hc2 hn.1 hn.2
    refine ⟨?_, ?_, ?_⟩
    · show takeL _ _ _ = _ - drawnAt r s n xs (k + 1)
      rw [drawnAt, t1, t2, p1]
    · rw [drawnAt, t2, p1]
    · rw [lostAt, p2]
theorem day_bd {r s n : Int} {xs : List Int} (h : yearB r s xs n = true) {k : Nat} (hk : k < xs.length) : (0 ≤ levAt r s n xs k ∧ levAt r s n xs k ≤ 1000000) ∧ (0 ≤ levAt r s n xs (k + 1) ∧ levAt r s n xs (k + 1) ≤ 1000000) ∧ (0 ≤ lostAt r s n xs k ∧ lostAt r s n xs k ≤ 1000000) ∧ (0 ≤ drawnAt r s n xs k ∧ drawnAt r s n xs k ≤ 1000000) ∧ drawnAt r s n xs k ≤ n := by
  obtain ⟨hr, hs, hl, hx, hn⟩ := yearB_parts h
  obtain ⟨⟨a1, a2⟩, a3⟩ := day_law h k (by omega)
  obtain ⟨b1, b2, b3⟩ := a3 hk
  obtain ⟨⟨c1, c2⟩, -⟩ := day_law h (k + 1) (by omega)
  have hxk := hx k hk
  refine ⟨by omega, by omega, ?_, ?_, ?_⟩
  · rw [b3]; omega
  · rw [b2]; omega
  · rw [b2]; omega
/-- The list f 0, f 1, .., f (k - 1). -/
def daysTo (f : Nat → Int) (k : Nat) : List Int := (List.range k).map f
@[simp] theorem daysTo_length (f : Nat → Int) (k : Nat) : (daysTo f k).length = k := by simp [daysTo]
theorem daysTo_succ (f : Nat → Int) (k : Nat) : daysTo f (k + 1) = daysTo f k ++ [f k] := by simp [daysTo, List.range_succ]
theorem gi_days {f : Nat → Int} {k i : Nat} (h : i < k) : gi (daysTo f k) i = f i := by simp [gi, daysTo, List.getD, h]
theorem days_i64 {f : Nat → Int} {k : Nat} (h : ∀ i, i < k → 0 ≤ f i ∧ f i ≤ 1000000) : ∀ x ∈ daysTo f k, I64 x := by
  intro x hx
  simp only [daysTo, List.mem_map, List.mem_range] at hx
  obtain ⟨i, hi, rfl⟩ := hx
  have := h i hi
  unfold I64; omega
/-- The sum f 0 + .. + f (k - 1). -/
def sumF (f : Nat → Int) : Nat → Int
  | 0 => 0
  | k + 1 => sumF f k + f k
theorem sumF_bd {f : Nat → Int} {M : Int} {N : Nat} (h : ∀ i, i < N → 0 ≤ f i ∧ f i ≤ M) : ∀ k, k ≤ N → 0 ≤ sumF f k ∧ sumF f k ≤ M * k := by
  intro k
  induction k with
  | zero => intro _; simp [sumF]
  | succ k ih =>
    intro hk
    have h1 := ih (by omega)
    have h2 := h k (by omega)
    have e : M * ((k + 1 : Nat) : Int) = M * k + M := by rw [Int.natCast_add, Int.mul_add]; simp
    rw [e]
    simp only [sumF]
    omega
theorem sum_days (f : Nat → Int) (n : Nat) : ∀ k, k ≤ n → sumTo (daysTo f n) k = sumF f k := by
  intro k
  induction k with
  | zero => intro _; rfl
  | succ k ih =>
    intro hk
    show sumTo _ k + gi _ k = sumF f k + f k
    rw [ih (by omega), gi_days (by omega)]
/-- The days k with p k, in order. -/
def whereTo (p : Nat → Bool) : Nat → List Int
  | 0 => []
  | k + 1 => if p k then whereTo p k ++ [(k : Int)] else whereTo p k
theorem whereTo_length (p : Nat → Bool) (k : Nat) : (whereTo p k).length ≤ k := by
  induction k with
  | zero => simp [whereTo]
  | succ k ih =>
    unfold whereTo
    split
    · rw [List.length_append]; exact Nat.add_le_add ih (Nat.le_refl 1)
    · omega
theorem whereTo_mem (p : Nat → Bool) (k : Nat) : ∀ x ∈ whereTo p k, 0 ≤ x ∧ x < k := by
  induction k with
  | zero => simp [whereTo]
  | succ k ih =>
    unfold whereTo
    split
    · intro x hx
      rcases List.mem_append.1 hx with h | h
      · have := ih x h; omega
      · simp at h; omega
    · intro x hx; have := ih x hx; omega
end Go.Proofs.Ytmnfainepmnpeaa
