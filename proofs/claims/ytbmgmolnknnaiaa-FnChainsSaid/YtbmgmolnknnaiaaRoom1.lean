/- The room from a cistern on: the program's walk. -/
import Derived.Test.YtbmgmolnknnaiaaRoom
namespace Go.Proofs.Ytbmgmolnknnaiaa
open Go.RowKit

set_option maxHeartbeats 1000000 in
theorem roomFrom_any {u v : Value} {ps : List (Int × Int)} {xs : List Int} (k : Int) (w : World) (hu : Pairs w u ps) (hv : Ints w v xs) :
    Calls Try.prog 21 #[.agg #[u, v], .int .i64 k] w fun e w' => e = .returned (.int .i64 (roomV ps xs k)) ∧ Gr w w' none := by
  have HU := hid hu
  have HV := hid hv
  obtain ⟨_, a, cap, rfl, hcap, hmax, hat⟩ := hu
  obtain ⟨_, a', cap', rfl, _, _, hat'⟩ := hv
  unfold maxLen at hmax
  clear hat'
  cases hb : chainB ps xs && inB k 0 ((ps.length : Int) - 1)
  · rw [show roomV ps xs k = -1 from by rw [roomV, if_pos (wayV_false hb)]]
    have HB := hid hb
    clear hb hat
    go_enter Try.func21, Try.ntmps21
    go_wp2_with fail
    refine (isCistern_any _ _ (HU.out.on (gr_alloc (gr_refl _ _) _)) (HV.out.on (gr_alloc (gr_refl _ _) _))).mono ?_
    rw [HB.out]
    rintro e w1 ⟨rfl, g1⟩
    go_wp2
    go_ret
    exact ⟨rfl, (by repeat (first | (with_reducible exact gr_refl _ _) | (with_reducible assumption) | (with_reducible refine gr_drew ?_) | (with_reducible refine gr_drewN ?_ _) | (with_reducible refine gr_alloc ?_ _) | (with_reducible refine gr_set ?_ (.inr (by simp; done)) _) | (with_reducible refine gr_set ?_ (.inr (by simp; omega)) _) | (with_reducible refine gr_then ?_ (by with_reducible assumption))))⟩
  · obtain ⟨hy1, hy2, hy3⟩ := wayV_facts hb
    rw [show roomV ps xs k = roomTo ps (wayV ps xs k) (wayV ps xs k).length from by rw [roomV, if_neg (by omega)]]
    generalize hY : wayV ps xs k = ys at hy1 hy2 hy3 ⊢
    generalize hR : roomTo ps ys ys.length = R
    have HR := hid hR
    have HY := hid hY
    have HB := hid hb
    have H3 := hid hy3
    have hyl : (ys.length : Int) ≤ 10 := by omega
    clear hR hY hb hy3
    go_enter Try.func21, Try.ntmps21
    go_wp2_with fail
    refine (isCistern_any _ _ (HU.out.on (gr_alloc (gr_refl _ _) _)) (HV.out.on (gr_alloc (gr_refl _ _) _))).mono ?_
    rw [HB.out]
    rintro e w1 ⟨rfl, g1⟩
    have k10 := (gr_cell g1 w.heap.size 0 (by simp)).trans (by simp [go_sem] : _ = some (Value.slice a ps.length cap))
    have k11 := (gr_cell g1 w.heap.size 1 (by simp)).trans (by simp [go_sem] : _ = some (Value.slice a' xs.length cap'))
    have G1 : Gr w w1 none := gr_then (by repeat (first | (with_reducible exact gr_refl _ _) | (with_reducible assumption) | (with_reducible refine gr_drew ?_) | (with_reducible refine gr_drewN ?_ _) | (with_reducible refine gr_alloc ?_ _) | (with_reducible refine gr_set ?_ (.inr (by simp; done)) _) | (with_reducible refine gr_set ?_ (.inr (by simp; omega)) _) | (with_reducible refine gr_then ?_ (by with_reducible assumption)))) g1
    have z1 := gr_le g1
    simp only [World.size_alloc] at z1
    clear g1
    go_wp2_with fail
    refine (wayOf_any _ _ (HU.out.on G1) (HV.out.on G1)).mono ?_
    rw [HY.out]
    rintro e w2 ⟨q, rfl, oq, g2⟩
    obtain ⟨_, aq, cq, rfl, hcq, hmq, hatq⟩ := oq.ints
    unfold maxLen at hmq
    have k20 := (gr_cell g2 w.heap.size 0 (by omega)).trans k10
    have G2 := gr_then G1 g2
    have z2 := gr_le g2
    clear k10 k11 G1 g2 oq
    go_wp2_with fail
    go_loopw [5, 16] (fun s i wr => ∃ j : Nat, j ≤ ys.length ∧ i = .int .i64 j ∧ s = .int .i64 (roomTo ps ys j) ∧ wr.cell? ⟨w.heap.size, 0, none⟩ = some (.slice a ps.length cap) ∧ Gr w2 wr none) (fun _ i _ => ys.length - (intOf i).toNat)
    case atStart => exact ⟨0, Nat.zero_le _, rfl, rfl, k20, gr_refl _ _⟩
    case round =>
      obtain ⟨j, hj, rfl, rfl, hk0, hg⟩ := hrel
      by_cases hlt : j < ys.length
      · have hlt' : (j : Int) < ys.length := by omega
        obtain ⟨hi0, hi1⟩ := H3.out j hlt
        obtain ⟨b2, off2, rfl, hc2⟩ : ∃ b off, aq = some ⟨b, off, none⟩ ∧ IntsAt w2 b off ys := by
          rcases hatq with h0 | h0
          · subst h0; simp at hlt
          · exact h0
        have hcy := hc2.kept hg (by simp) j hlt
        have bR := roomTo_bd ps ys j
        have bS := hid (space_bd (gp ps (gi ys j).toNat).1 (gp ps (gi ys j).toNat).2)
        have E : Hid (roomTo ps ys (j + 1) = roomTo ps ys j + spaceV (gp ps (gi ys j).toNat).1 (gp ps (gi ys j).toNat).2) := rfl
        obtain ⟨i, hi⟩ := Int.eq_ofNat_of_zero_le hi0
        rw [hi] at hcy bS E hi1
        rw [Int.toNat_natCast] at bS E
        have hix : i < ps.length := by omega
        obtain ⟨b, off, rfl, hc⟩ : ∃ b off, a = some ⟨b, off, none⟩ ∧ PairsAt w b off ps := by
          rcases hat with h0 | h0
          · subst h0; simp at hix
          · exact h0
        obtain ⟨c1, c2⟩ := (hc.kept (gr_then G2 hg) (by simp)) i hix
        have r1 : -10 ≤ roomTo ps ys j := by omega
        have r2 : roomTo ps ys j ≤ 10000000 := by omega
        clear hc hat hc2 hatq hi hi0 bR
        go_wp2_with fail
        refine (spaceIn_any _ _ _).mono ?_
        rintro e w3 ⟨rfl, g3⟩
        have s1 := bS.out.1
        have s2 := bS.out.2
        generalize hS : spaceV (gp ps i).1 (gp ps i).2 = S at *
        clear hS
        have hk3 := World.grownBy.cell g3 hk0 (by simp)
        have hg3 := gr_then hg g3
        clear hg hk0 g3 c1 c2 hcy
        go_wp2
        go_roundw
        case rel => exact ⟨j + 1, by omega, by go_num, by rw [E.out], hk3, hg3⟩
        case measure => simp [intOf]; omega
      · have hkl : j = ys.length := by omega
        subst hkl
        clear hat hatq
        go_wp2
        go_ret
        exact ⟨by rw [← HR.out]; rfl, gr_then G2 hg⟩
end Go.Proofs.Ytbmgmolnknnaiaa
