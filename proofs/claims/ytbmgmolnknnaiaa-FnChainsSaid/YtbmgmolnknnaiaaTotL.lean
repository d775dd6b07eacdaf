/- The level of a whole chain, walked. -/
import Derived.Test.YtbmgmolnknnaiaaChOk2
namespace Go.Proofs.Ytbmgmolnknnaiaa
open Go.RowKit

def levTo (ps : List (Int × Int)) : Nat → Int
  | 0 => 0
  | k + 1 => levTo ps k + (gp ps k).2
theorem chainB_parts {ps : List (Int × Int)} {xs : List Int} (h : chainB ps xs = true) : (1 ≤ ps.length ∧ ps.length ≤ 10) ∧ xs.length = ps.length ∧ allB xs (-1) (ps.length - 1) = true ∧ cistAll ps = true ∧ (circL xs).length = 0 := by
  simp only [chainB, Bool.and_eq_true, decide_eq_true_eq] at h
  obtain ⟨⟨⟨⟨h1, h2⟩, h3⟩, h4⟩, h5⟩ := h
  have := inB_true h1
  exact ⟨by omega, h2, h3, h4, h5⟩
theorem lev_bd {ps : List (Int × Int)} (h : cistAll ps = true) {i : Nat} (hi : i < ps.length) : 0 ≤ (gp ps i).2 ∧ (gp ps i).2 ≤ 1000000 := by
  have := cistB_true (cistAll_get h hi); omega
theorem levTo_bd {ps : List (Int × Int)} (h : cistAll ps = true) : ∀ k, k ≤ ps.length → 0 ≤ levTo ps k ∧ levTo ps k ≤ 1000000 * k := by
  intro k
  induction k with
  | zero => intro _; simp [levTo]
  | succ k ih =>
    intro h'
    have := ih (by omega)
    have := lev_bd h (i := k) (by omega)
    simp only [levTo]; omega
def totV (ps : List (Int × Int)) (xs : List Int) : Int := if chainB ps xs then levTo ps ps.length else -1
theorem totalLevel_any {u v : Value} {ps : List (Int × Int)} {xs : List Int} (w : World) (hu : Pairs w u ps) (hv : Ints w v xs) :
    Calls Try.prog 20 #[.agg #[u, v]] w fun e w' => e = .returned (.int .i64 (totV ps xs)) ∧ Gr w w' none := by
  have HU := hid hu
  have HV := hid hv
  obtain ⟨_, a, cap, rfl, hcap, hmax, hat⟩ := hu
  obtain ⟨_, a', cap', rfl, hcap', hmax', hat'⟩ := hv
  unfold maxLen at hmax hmax'
  clear hat'
  cases hb : chainB ps xs
  · rw [show totV ps xs = -1 from by simp [totV, hb]]
    have HB := hid hb
    clear hat hb
    go_enter Try.func20, Try.ntmps20
    go_wp2_with fail
    refine (chainOk_any _ (HU.out.on (gr_alloc (gr_refl _ _) _)) (HV.out.on (gr_alloc (gr_refl _ _) _))).mono ?_
    rw [HB.out]
    rintro e w1 ⟨rfl, g1⟩
    go_wp2
    go_ret
    exact ⟨rfl, (by repeat (first | (with_reducible exact gr_refl _ _) | (with_reducible assumption) | (with_reducible refine gr_drew ?_) | (with_reducible refine gr_drewN ?_ _) | (with_reducible refine gr_alloc ?_ _) | (with_reducible refine gr_set ?_ (.inr (by simp; done)) _) | (with_reducible refine gr_set ?_ (.inr (by simp; omega)) _) | (with_reducible refine gr_then ?_ (by with_reducible assumption))))⟩
  · obtain ⟨hn, -, -, hca, -⟩ := chainB_parts hb
    have HB := hid hb
    have HC := hid hca
    rw [show totV ps xs = levTo ps ps.length from by simp [totV, hb]]
    generalize hR : levTo ps ps.length = R
    have HR := hid hR
    clear hb hca hR
    have hn' : (ps.length : Int) ≤ 10 := by omega
    go_enter Try.func20, Try.ntmps20
    go_wp2_with fail
    refine (chainOk_any _ (HU.out.on (gr_alloc (gr_refl _ _) _)) (HV.out.on (gr_alloc (gr_refl _ _) _))).mono ?_
    rw [HB.out]
    rintro e w1 ⟨rfl, g1⟩
    have k1 := (gr_cell g1 w.heap.size 0 (by simp)).trans (by simp [go_sem] : _ = some (Value.slice a ps.length cap))
    have G1 : Gr w w1 none := gr_then (by repeat (first | (with_reducible exact gr_refl _ _) | (with_reducible assumption) | (with_reducible refine gr_drew ?_) | (with_reducible refine gr_drewN ?_ _) | (with_reducible refine gr_alloc ?_ _) | (with_reducible refine gr_set ?_ (.inr (by simp; done)) _) | (with_reducible refine gr_set ?_ (.inr (by simp; omega)) _) | (with_reducible refine gr_then ?_ (by with_reducible assumption)))) g1
    clear g1
    go_wp2_with fail
    go_loopw [3, 12] (fun s i wr => ∃ k : Nat, k ≤ ps.length ∧ i = .int .i64 k ∧ s = .int .i64 (levTo ps k) ∧ Gr w wr none) (fun _ i _ => ps.length - (intOf i).toNat)
    case atStart => exact ⟨0, Nat.zero_le _, rfl, rfl, G1⟩
    case round =>
      obtain ⟨k, hk, rfl, rfl, hg⟩ := hrel
      by_cases hlt : k < ps.length
      · obtain ⟨b, off, rfl, hc⟩ : ∃ b off, a = some ⟨b, off, none⟩ ∧ PairsAt w b off ps := by
          rcases hat with h0 | h0
          · subst h0; simp at hlt
          · exact h0
        obtain ⟨c1, c2⟩ := (hc.kept hg (by simp)) k hlt
        clear hc hat
        have b1 := levTo_bd HC.out k hk
        have b2 := lev_bd HC.out hlt
        have hk10 : (k : Int) ≤ 10 := by omega
        have E : Hid (levTo ps (k + 1) = levTo ps k + (gp ps k).2) := rfl
        have c3 := b1.1
        have c4 : levTo ps k ≤ 10000000 := by omega
        clear b1
        go_wp2
        go_roundw
        case rel => exact ⟨k + 1, by omega, by go_num, by rw [E.out], gr_alloc hg _⟩
        case measure => simp [intOf]; omega
      · have hkl : k = ps.length := by omega
        subst hkl
        clear hat
        go_wp2
        go_ret
        exact ⟨by rw [← HR.out]; rfl, hg⟩
end Go.Proofs.Ytbmgmolnknnaiaa
