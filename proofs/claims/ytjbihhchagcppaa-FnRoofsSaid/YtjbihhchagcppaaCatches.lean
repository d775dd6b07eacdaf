/- What several roofs catch. -/
import Derived.Test.YtjbihhchagcppaaRoof1
import Derived.Test.YtjbihhchagcppaaPairs
namespace Go.Proofs.Ytjbihhchagcppaa
open Go.RowKit

/-- What the first k roofs catch, -1 from the first on that is out of range. -/
def catchTo (ps : List (Int × Int)) (r : Int) : Nat → Int
  | 0 => 0
  | k + 1 => catchTo ps r k + catchV (gp ps k).1 (gp ps k).2 r
/-- None of the first k roofs, nor the rain, is out of range. -/
def NoBad (ps : List (Int × Int)) (r : Int) (k : Nat) : Prop := ∀ i, i < k → 0 ≤ catchV (gp ps i).1 (gp ps i).2 r
theorem catchV_bd (a p r : Int) : -1 ≤ catchV a p r ∧ catchV a p r ≤ 300000 := by
  unfold catchV
  split
  · rename_i h
    simp only [Bool.and_eq_true] at h
    have := catch_bd h.1 h.2
    omega
  · omega
theorem catchTo_bd {ps : List (Int × Int)} {r : Int} : ∀ k, NoBad ps r k → 0 ≤ catchTo ps r k ∧ catchTo ps r k ≤ 300000 * k := by
  intro k
  induction k with
  | zero => intro _; simp [catchTo]
  | succ k ih =>
    intro h
    have h1 := ih (fun i hi => h i (by omega))
    have h2 := h k (by omega)
    have h3 := catchV_bd (gp ps k).1 (gp ps k).2 r
    simp only [catchTo]
    omega
open Classical in
noncomputable def catchAllV (ps : List (Int × Int)) (r : Int) : Int := if ps.length ≤ 20 ∧ NoBad ps r ps.length then catchTo ps r ps.length else -1
theorem catchAll_any {v : Value} {ps : List (Int × Int)} (r : Int) (w : World) (h : Pairs w v ps) :
    Calls Try.prog 8 #[v, .int .i64 r] w fun e w' => e = .returned (.int .i64 (catchAllV ps r)) ∧ Gr w w' none := by
  obtain ⟨_, a, cap, rfl, hcap, hmax, hat⟩ := h
  unfold maxLen at hmax
  by_cases hl : ps.length ≤ 20
  · generalize hV : catchAllV ps r = V
    have HV := hid hV
    clear hV
    go_enter Try.func8, Try.ntmps8
    go_wp2_with fail
    go_loopw [5, 14] (fun n i wr => ∃ k : Nat, k ≤ ps.length ∧ i = .int .i64 k ∧ n = .int .i64 (catchTo ps r k) ∧ NoBad ps r k ∧ Gr w wr none) (fun _ i _ => ps.length - (intOf i).toNat)
    case atStart => exact ⟨0, Nat.zero_le _, rfl, rfl, fun i hi => absurd hi (Nat.not_lt_zero i), gr_refl _ _⟩
    case round =>
      obtain ⟨k, hk, rfl, rfl, hbad, hg⟩ := hrel
      have hb := catchTo_bd k hbad
      have HB := hid hbad
      clear hbad
      by_cases hlt : k < ps.length
      · obtain ⟨b, off, rfl, hc⟩ : ∃ b off, a = some ⟨b, off, none⟩ ∧ PairsAt w b off ps := by
          rcases hat with h0 | h0
          · subst h0; simp at hlt
          · exact h0
        obtain ⟨c1, c2⟩ := hc.kept hg (by simp) k hlt
        clear hat hc
        have hv := catchV_bd (gp ps k).1 (gp ps k).2 r
        go_wp2_with fail
        refine (catch_any _ _ _ _).mono ?_
        rintro e w1 ⟨rfl, g1⟩
        have g1' := gr_then (gr_alloc hg _) g1
        clear g1 c1 c2 hg
        have E : Hid (catchTo ps r (k + 1) = catchTo ps r k + catchV (gp ps k).1 (gp ps k).2 r) := rfl
        have E2 : Hid (catchV (gp ps k).1 (gp ps k).2 r = catchV (gp ps k).1 (gp ps k).2 r) := rfl
        generalize hX : catchV (gp ps k).1 (gp ps k).2 r = X at *
        have HX := hid hX
        clear hX
        by_cases hq : X < 0
        · go_wp2
          go_ret
          refine ⟨ret_int ?_, g1'⟩
          rw [← HV.out, catchAllV, if_neg]
          intro hh
          have := hh.2 k hlt
          rw [HX.out] at this
          omega
        · have hq' : 0 ≤ X := by omega
          go_wp2
          go_roundw
          case rel => exact ⟨k + 1, by omega, by go_num, by rw [E.out], fun i hi => by
            by_cases e : i = k
            · rw [e, HX.out]; exact hq'
            · exact HB.out i (by omega), g1'⟩
          case measure => simp [intOf]; omega
      · have hkl : k = ps.length := by omega
        subst hkl
        clear hat
        go_wp2
        go_ret
        refine ⟨ret_int ?_, hg⟩
        rw [← HV.out, catchAllV, if_pos ⟨hl, HB.out⟩]
  · have e1 : catchAllV ps r = -1 := by rw [catchAllV, if_neg (fun hh => hl hh.1)]
    rw [e1]
    clear e1
    go_enter Try.func8, Try.ntmps8
    go_wp2
    go_ret
    exact ⟨rfl, gr_refl _ _⟩
end Go.Proofs.Ytjbihhchagcppaa
