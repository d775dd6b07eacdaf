/- What holds of drawn roofs: plain laws. -/
import Derived.Test.YtjbihhchagcppaaDrawRoof
import Derived.Test.YtjbihhchagcppaaCatches
import Derived.Test.YtjbihhchagcppaaArea
import Derived.Test.YtjbihhchagcppaaBetter
namespace Go.Proofs.Ytjbihhchagcppaa
open Go.RowKit

theorem small_roofB {a p : Int} (h : SmallRf (a, p)) : roofB a p = true := by
  unfold SmallRf at h
  simp only [] at h
  rw [roofB, inB_mk (by omega), inB_mk (by omega)]; rfl
theorem gp_app {ps : List (Int × Int)} {q : Int × Int} {i : Nat} (h : i < ps.length) : gp (ps ++ [q]) i = gp ps i := by
  simp [gp, List.getD, List.getElem?_append_left h]
theorem gp_last {ps : List (Int × Int)} {q : Int × Int} : gp (ps ++ [q]) ps.length = q := by simp [gp, List.getD]
theorem catchTo_app {ps : List (Int × Int)} {q : Int × Int} {r : Int} : ∀ k, k ≤ ps.length → catchTo (ps ++ [q]) r k = catchTo ps r k := by
  intro k
  induction k with
  | zero => intro _; rfl
  | succ k ih => intro h; simp only [catchTo]; rw [ih (by omega), gp_app (by omega)]
theorem small_catch {q : Int × Int} {x : Int} (h : SmallRf q) (hx : 0 ≤ x ∧ x ≤ 255) : catchV q.1 q.2 x = q.1 * x * q.2 / 100 ∧ 0 ≤ catchV q.1 q.2 x ∧ catchV q.1 q.2 x ≤ 300000 := by
  have h1 : roofB q.1 q.2 = true := small_roofB h
  have h2 : inB x 0 300 = true := inB_mk (by omega)
  have e : catchV q.1 q.2 x = q.1 * x * q.2 / 100 := by rw [catchV, h1, h2]; rfl
  have := (catch_bd h1 h2).2
  exact ⟨e, by rw [e]; omega, by rw [e]; omega⟩
theorem small_nobad {ps : List (Int × Int)} {x : Int} (h : ∀ q ∈ ps, SmallRf q) (hx : 0 ≤ x ∧ x ≤ 255) : NoBad ps x ps.length := fun i hi => (small_catch (h _ (gp_mem hi)) hx).2.1
theorem small_all {ps : List (Int × Int)} {x : Int} (hl : ps.length ≤ 20) (h : ∀ q ∈ ps, SmallRf q) (hx : 0 ≤ x ∧ x ≤ 255) : catchAllV ps x = catchTo ps x ps.length := by
  rw [catchAllV, if_pos ⟨hl, small_nobad h hx⟩]
theorem areaTo_spec {need r p : Int} : ∀ (f : Nat) (a a' : Int), a ≤ a' → a' < a + f → need ≤ a' * r * p / 100 → (a ≤ areaTo need r p f a ∧ areaTo need r p f a ≤ a') ∧ need ≤ areaTo need r p f a * r * p / 100
  | 0, a, a', h1, h2, _ => by omega
  | f + 1, a, a', h1, h2, h3 => by
    simp only [areaTo]
    split
    · rename_i h; exact ⟨⟨Int.le_refl _, h1⟩, h⟩
    · rename_i h
      have hne : a ≠ a' := by intro e; subst e; exact h h3
      have := areaTo_spec f (a + 1) a' (by omega) (by omega) h3
      exact ⟨⟨by omega, this.1.2⟩, this.2⟩
structure RoofsF (ps : List (Int × Int)) (A P x NN XX MM ND C1 C2 bv bt : Int) : Prop where
  eN : catchAllV ps x = NN
  eX : catchV A P x = XX
  eM : catchAllV (ps ++ [(A, P)]) x = MM
  eD : areaV XX x P = ND
  eC1 : catchV ND P x = C1
  eC2 : catchV (A + 1) P x = C2
  eB : betterV (A + 1) P A P = bv
  eT : (if 0 < P then 1 else 0) = bt
  n0 : 0 ≤ NN ∧ NN ≤ 1200000
  x0 : 0 ≤ XX ∧ XX ≤ 300000
  m0 : MM = NN + XX
  d0 : 1 ≤ ND ∧ ND ≤ A
  c1 : XX ≤ C1
  c2 : XX ≤ C2
  b0 : bv = -bt
  t0 : 0 ≤ bt ∧ bt ≤ 1
theorem roofs_all {ps : List (Int × Int)} {A P x : Int} (hps : ps.length ≤ 4 ∧ ∀ q ∈ ps, SmallRf q) (hs : SmallRf (A, P)) (hx : 0 ≤ x ∧ x ≤ 255) : ∃ NN XX MM ND C1 C2 bv bt, RoofsF ps A P x NN XX MM ND C1 C2 bv bt := by
  refine ⟨_, _, _, _, _, _, _, _, ⟨rfl, rfl, rfl, rfl, rfl, rfl, rfl, rfl, ?_, ?_, ?_, ?_, ?_, ?_, ?_, ?_⟩⟩
  · rw [small_all (by omega) hps.2 hx]
    have := catchTo_bd _ (small_nobad hps.2 hx)
    have h4 : (ps.length : Int) ≤ 4 := by omega
    omega
  · exact (small_catch hs hx).2
  · have h2 : ∀ q ∈ ps ++ [(A, P)], SmallRf q := fun q hq => by
      rcases List.mem_append.1 hq with h | h
      · exact hps.2 q h
      · simp at h; subst h; exact hs
    rw [small_all (by omega) hps.2 hx, small_all (by simp; omega) h2 hx]
    simp only [List.length_append, List.length_cons, List.length_nil, Nat.zero_add, catchTo]
    rw [catchTo_app _ (Nat.le_refl _), gp_last]
  all_goals
    have hs' : (1 ≤ A ∧ A ≤ 200) ∧ 0 ≤ P ∧ P ≤ 100 := hs
    have hX := small_catch hs hx
    have hP : inB P 0 100 = true := inB_mk hs'.2
    have hR : inB x 0 300 = true := inB_mk (by omega)
    have hB : areaB (catchV A P x) x P = true := by rw [areaB, hP, hR, inB_mk (by have := hX.2; simp only [] at this; omega)]; rfl
    have hD := areaTo_spec (need := catchV A P x) (r := x) (p := P) 1000 1 A (by omega) (by omega) (by rw [hX.1]; exact Int.le_refl _)
    have eD : areaV (catchV A P x) x P = areaTo (catchV A P x) x P 1000 1 := by rw [areaV, hB]; rfl
  · rw [eD]; exact hD.1
  · rw [eD, area_catch hD.1.1 (by omega) hR hP]; exact hD.2
  · rw [area_catch (a := A + 1) (by omega) (by omega) hR hP, hX.1]
    have e1 : (A + 1) * x * P = A * x * P + x * P := by rw [Int.add_mul, Int.one_mul, Int.add_mul]
    have e2 : 0 ≤ x * P := Int.mul_nonneg hx.1 hs'.2.1
    simp only []
    exact Int.ediv_le_ediv (by omega) (by omega)
  · have h1 : roofB A P = true := small_roofB hs
    have h2 : roofB (A + 1) P = true := by rw [roofB, inB_mk (by omega), hP]; rfl
    have e1 : (A + 1) * P = A * P + P := by rw [Int.add_mul, Int.one_mul]
    rw [betterV, h1, h2, cmpV, e1]
    simp only [Bool.and_self, if_true]
    split
    · rw [if_pos (by omega)]
    · rw [if_neg (by omega), if_neg (by omega)]; rfl
  · split <;> omega
end Go.Proofs.Ytjbihhchagcppaa
