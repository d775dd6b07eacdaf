/- Pouring into a chain, with no program in sight. -/
import Derived.Test.YtbmgmolnknnaiaaRoom
namespace Go.Proofs.Ytbmgmolnknnaiaa
open Go.RowKit

theorem gp_set (ps : List (Int × Int)) (k i : Nat) (v : Int × Int) : gp (ps.set k v) i = if i = k ∧ k < ps.length then v else gp ps i := by
  unfold gp
  simp only [List.getD_eq_getElem?_getD, List.getElem?_set]
  by_cases e : k = i
  · subst e
    by_cases h : k < ps.length
    · simp [h]
    · simp [h]
  · rw [if_neg e, if_neg (by omega)]
theorem gp_same {ps : List (Int × Int)} {k : Nat} (h : k < ps.length) (v : Int × Int) : gp (ps.set k v) k = v := by rw [gp_set, if_pos ⟨rfl, h⟩]
theorem gp_other {ps : List (Int × Int)} {k i : Nat} (h : i ≠ k) (v : Int × Int) : gp (ps.set k v) i = gp ps i := by rw [gp_set, if_neg (by omega)]
/-- The cisterns behind one pouring of x into cistern q. -/
def pinS (ps : List (Int × Int)) (q : Nat) (x : Int) : List (Int × Int) := ps.set q ((gp ps q).1, pourL (gp ps q).1 (gp ps q).2 x)
def pinO (ps : List (Int × Int)) (q : Nat) (x : Int) : Int := pourO (gp ps q).1 (gp ps q).2 x
/-- The cisterns, and the water that is left, behind t steps down the way ys. -/
def pinTo (ps : List (Int × Int)) (ys : List Int) (x : Int) : Nat → List (Int × Int) × Int
  | 0 => (ps, x)
  | t + 1 => (pinS (pinTo ps ys x t).1 (gi ys t).toNat (pinTo ps ys x t).2, pinO (pinTo ps ys x t).1 (gi ys t).toNat (pinTo ps ys x t).2)
def pinOk (ps : List (Int × Int)) (xs : List Int) (k x : Int) : Bool := chainB ps xs && inB k 0 ((ps.length : Int) - 1) && inB x 0 1000000
def pinV (ps : List (Int × Int)) (xs : List Int) (k x : Int) : List (Int × Int) × Int :=
  if pinOk ps xs k x then pinTo ps (wayV ps xs k) x (wayV ps xs k).length else (ps, -1)
@[simp] theorem pinS_length (ps : List (Int × Int)) (q : Nat) (x : Int) : (pinS ps q x).length = ps.length := by simp [pinS]
theorem pinTo_length (ps : List (Int × Int)) (ys : List Int) (x : Int) (t : Nat) : (pinTo ps ys x t).1.length = ps.length := by
  induction t with
  | zero => rfl
  | succ t ih => simp [pinTo, ih]
theorem pour_ok {r l x : Int} (h : cistB r l = true) (h0 : 0 ≤ x) (h1 : x ≤ 1000000) : cistB r (pourL r l x) = true ∧ 0 ≤ pourO r l x ∧ pourO r l x ≤ x ∧ pourL r l x + pourO r l x = l + x ∧ l ≤ pourL r l x ∧ (0 < pourO r l x → pourL r l x = r) := by
  obtain ⟨b1, b2⟩ := cistB_true h
  have e1 : pourOk r l x = true := by rw [pourOk, h, inB_mk (by omega)]; rfl
  have mk : ∀ l', 0 ≤ l' → l' ≤ r → cistB r l' = true := fun l' a b => by rw [cistB, inB_mk b1, inB_mk ⟨a, b⟩]; rfl
  rw [pourL, pourO, if_pos e1, if_pos e1]
  split
  · exact ⟨mk _ (by omega) (by omega), by omega, by omega, by omega, by omega, fun _ => rfl⟩
  · exact ⟨mk _ (by omega) (by omega), by omega, by omega, by omega, by omega, fun _ => by omega⟩
theorem pinTo_ok {ps : List (Int × Int)} {ys : List Int} {x : Int} (hc : cistAll ps = true) (h0 : 0 ≤ x) (h1 : x ≤ 1000000) (hy : ∀ i, i < ys.length → 0 ≤ gi ys i ∧ gi ys i < ps.length) :
    ∀ t, t ≤ ys.length → cistAll (pinTo ps ys x t).1 = true ∧ 0 ≤ (pinTo ps ys x t).2 ∧ (pinTo ps ys x t).2 ≤ x := by
  intro t
  induction t with
  | zero => intro _; exact ⟨hc, h0, Int.le_refl _⟩
  | succ t ih =>
    intro ht
    obtain ⟨i1, i2, i3⟩ := ih (by omega)
    have hq := hy t (by omega)
    have hl := pinTo_length ps ys x t
    obtain ⟨p1, p2, p3, -, -⟩ := pour_ok (cistAll_get i1 (i := (gi ys t).toNat) (by omega)) i2 (by omega)
    refine ⟨cistAll_mk fun i hi => ?_, p2, Int.le_trans p3 i3⟩
    rw [pinTo_length] at hi
    show cistB (gp (pinS _ _ _) i).1 (gp (pinS _ _ _) i).2 = true
    unfold pinS
    by_cases e : i = (gi ys t).toNat
    · subst e
      rw [gp_same (by omega)]
      exact p1
    · rw [gp_other e]
      exact cistAll_get i1 (by omega)
theorem cist_i64 {ps : List (Int × Int)} (h : cistAll ps = true) : ∀ x ∈ ps, I64 x.1 ∧ I64 x.2 := by
  intro x hx
  simp only [cistAll, List.all_eq_true] at h
  have := cistB_true (h x hx)
  unfold I64; omega
theorem way_pre (xs : List Int) (k : Nat) {t : Nat} : ∀ n, t ≤ n → ∃ l, wayTo xs k n = wayTo xs k t ++ l := by
  intro n
  induction n with
  | zero => intro h; obtain rfl : t = 0 := by omega
            exact ⟨[], by simp⟩
  | succ n ih =>
    intro h
    by_cases e : t = n + 1
    · subst e; exact ⟨[], by simp⟩
    · obtain ⟨l, hl⟩ := ih (by omega)
      have e2 : wayTo xs k (n + 1) = if 0 ≤ wayAt xs k n then wayTo xs k n ++ [wayAt xs k n] else wayTo xs k n := rfl
      rw [e2]
      split
      · exact ⟨l ++ [wayAt xs k n], by rw [hl, List.append_assoc]⟩
      · exact ⟨l, hl⟩
theorem way_len {xs : List Int} {k : Nat} : ∀ t, (t = 0 ∨ 0 ≤ wayAt xs k (t - 1)) → (wayTo xs k t).length = t := by
  intro t
  induction t with
  | zero => intro _; rfl
  | succ t ih =>
    intro h
    have h' : 0 ≤ wayAt xs k t := by
      rcases h with h | h
      · omega
      · simpa using h
    rw [wayTo, if_pos h', List.length_append]
    have : (wayTo xs k t).length = t := by
      apply ih
      by_cases e : t = 0
      · exact .inl e
      · right
        by_cases hn : 0 ≤ wayAt xs k (t - 1)
        · exact hn
        · rw [wayAt_out (t := t - 1) (by omega) t (by omega)] at h'; omega
    simp [this]
theorem gi_way {xs : List Int} {k t n : Nat} (h : 0 ≤ wayAt xs k t) (hn : t < n) : gi (wayTo xs k n) t = wayAt xs k t := by
  obtain ⟨l, hl⟩ := way_pre xs k (t := t + 1) n hn
  have h1 : (wayTo xs k t).length = t := by
    apply way_len
    by_cases e : t = 0
    · exact .inl e
    · right
      by_cases hn : 0 ≤ wayAt xs k (t - 1)
      · exact hn
      · rw [wayAt_out (t := t - 1) (by omega) t (by omega)] at h; omega
  rw [hl, wayTo, if_pos h, gi, List.getD_eq_getElem?_getD, List.append_assoc, List.getElem?_append_right (by omega), h1, Nat.sub_self]
  simp
end Go.Proofs.Ytbmgmolnknnaiaa
