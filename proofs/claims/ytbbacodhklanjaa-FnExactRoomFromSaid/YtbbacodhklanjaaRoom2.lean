/- The room from a cistern on: the model's walk. -/
import Derived.Test.YtbbacodhklanjaaRoom1
import Derived.Deep.RegionHeld3
namespace Go.Proofs.Ytbbacodhklanjaa
open Go.RowKit

set_option maxHeartbeats 1000000 in
theorem sRoomFrom_any {u v : Value} {ps : List (Int × Int)} {xs : List Int} (k : Int) (w : World) (hu : Pairs w u ps) (hv : Ints w v xs) :
    Calls Try.prog 53 #[.agg #[u, v], .int .i64 k] w fun e w' => e = .returned (.int .i64 (roomV ps xs k)) ∧ Gr w w' none := by
  have HU := hid hu
  have HV := hid hv
  obtain ⟨_, a, cap, rfl, hcap, hmax, hat⟩ := hu
  obtain ⟨_, a', cap', rfl, _, _, hat'⟩ := hv
  unfold maxLen at hmax
  clear hat'
  cases hb : chainB ps xs && inB k 0 ((ps.length : Int) - 1)
  · rw [show roomV ps xs k = -1 from by rw [roomV, if_pos (wayV_false hb)]]
    have h0 := wayV_false hb
    generalize hY : wayV ps xs k = ys at h0
    have HY := hid hY
    obtain rfl : ys = [] := by simpa using h0
    clear hb hat hY h0
    go_enter Try.func53, Try.ntmps53
    go_wp2_with fail
    refine (sWayOf_any _ _ (HU.out.on (gr_alloc (gr_refl _ _) _)) (HV.out.on (gr_alloc (gr_refl _ _) _))).mono ?_
    rw [HY.out]
    rintro e w2 ⟨q, rfl, oq, g2⟩
    obtain ⟨_, aq, cq, rfl, -, -, -⟩ := oq.ints
    clear oq
    go_wp2
    go_ret
    exact ⟨rfl, (by repeat (first | (with_reducible exact gr_refl _ _) | (with_reducible assumption) | (with_reducible refine gr_drew ?_) | (with_reducible refine gr_drewN ?_ _) | (with_reducible refine gr_alloc ?_ _) | (with_reducible refine gr_set ?_ (.inr (by simp; done)) _) | (with_reducible refine gr_set ?_ (.inr (by simp; omega)) _) | (with_reducible refine gr_then ?_ (by with_reducible assumption))))⟩
  · obtain ⟨hy1, hy2, hy3⟩ := wayV_facts hb
    rw [show roomV ps xs k = roomTo ps (wayV ps xs k) (wayV ps xs k).length from by rw [roomV, if_neg (by omega)]]
    generalize hY : wayV ps xs k = ys at hy1 hy2 hy3 ⊢
    generalize hR : roomTo ps ys ys.length = R
    have HR := hid hR
    have HY := hid hY
    have HB := hid hb
    have H3 := hid hy3
    have hyl : (ys.length : Int) ≤ 10 := by omega
    clear hR hY hb hy3
    go_enter Try.func53, Try.ntmps53
    go_wp2_with fail
    refine (sWayOf_any _ _ (HU.out.on (gr_alloc (gr_refl _ _) _)) (HV.out.on (gr_alloc (gr_refl _ _) _))).mono ?_
    rw [HY.out]
    rintro e w2 ⟨q, rfl, oq, g2⟩
    obtain ⟨_, aq, cq, rfl, hcq, hmq, hatq⟩ := oq.ints
    unfold maxLen at hmq
    have k20 := (gr_cell g2 w.heap.size 0 (by simp)).trans (by simp [go_sem] : _ = some (Value.slice a ps.length cap))
    have G2 : Gr w w2 none := gr_then (gr_alloc (gr_refl _ _) _) g2
    have hyp : ((ys.length : Int) == 0) = false := by
      have h9 : ys.length ≠ 0 := by omega
      simpa using h9
    clear g2 oq
    go_wp2_with fail
    go_loopw [6, 7] (fun s i wr => ∃ j : Nat, j ≤ ys.length ∧ i = .int .i64 j ∧ s = .int .i64 (roomTo ps ys j) ∧ wr.cell? ⟨w.heap.size, 0, none⟩ = some (.slice a ps.length cap) ∧ Gr w2 wr none) (fun _ i _ => ys.length - (intOf i).toNat)
    case atStart => exact ⟨0, Nat.zero_le _, rfl, rfl, k20, gr_refl _ _⟩
    case round =>
      obtain ⟨j, hj, rfl, rfl, hk0, hg⟩ := hrel
      by_cases hlt : j < ys.length
      · have hlt' : (j : Int) < ys.length := by omega
        obtain ⟨hi0, hi1⟩ := H3.out j hlt
        obtain ⟨b2, off2, rfl, hc2⟩ : ∃ b off, aq = some ⟨b, off, none⟩ ∧ IntsAt w2 b off ys := by
          rcases hatq with h0 | h0
          · subst h0; simp at hlt
          · exact h0
        have hcy := hc2.kept hg (by simp) j hlt
        have bR := roomTo_bd ps ys j
        have bS := hid (space_bd (gp ps (gi ys j).toNat).1 (gp ps (gi ys j).toNat).2)
        have E : Hid (roomTo ps ys (j + 1) = roomTo ps ys j + spaceV (gp ps (gi ys j).toNat).1 (gp ps (gi ys j).toNat).2) := rfl
        obtain ⟨i, hi⟩ := Int.eq_ofNat_of_zero_le hi0
        rw [hi] at hcy bS E hi1
        rw [Int.toNat_natCast] at bS E
        have hix : i < ps.length := by omega
        obtain ⟨b, off, rfl, hc⟩ : ∃ b off, a = some ⟨b, off, none⟩ ∧ PairsAt w b off ps := by
          rcases hat with h0 | h0
          · subst h0; simp at hix
          · exact h0
        obtain ⟨c1, c2⟩ := (hc.kept (gr_then G2 hg) (by simp)) i hix
        have r1 : -10 ≤ roomTo ps ys j := by omega
        have r2 : roomTo ps ys j ≤ 10000000 := by omega
        have hip : (i : Int) < ps.length := by omega
        clear hc hat hc2 hatq hi hi0 bR
        have HA := hid (And.intro hk0 (And.intro hcy (And.intro c1 (And.intro c2 hg))))
        clear hk0 hcy c1 c2 hg
        generalize hS : spaceV (gp ps i).1 (gp ps i).2 = S at *
        have HS := hid hS
        have s1 := bS.out.1
        have s2 := bS.out.2
        generalize hX : gp ps i = X at *
        clear hS hX
        have hw : IntKind.i64.wrap (roomTo ps ys j + S) = roomTo ps ys j + S := IntWalk.i64_in _ (by omega)
        go_wp2_with fail
        go_region_held3 (fun w' => w'.cell? ⟨w.heap.size, 0, none⟩ = some (.slice (some ⟨b, off, none⟩) ps.length cap) ∧ w'.cell? ⟨b2, off2 + j, none⟩ = some (.int .i64 i) ∧ w'.cell? ⟨b, off + i * 2, none⟩ = some (.int .i64 X.1) ∧ w'.cell? ⟨b, off + i * 2 + 1, none⟩ = some (.int .i64 X.2) ∧ Gr w2 w' none)
          (first | exact held4 (by assumption) (by assumption) | exact held4 HA.out (gr_drew (gr_refl _ _)) | exact HA.out)
          (first | (go_at_call 22; refine (sSpaceIn_any _ _ _).mono ?_; rw [HS.out]; rintro e w' ⟨rfl, g3⟩))
        have hh : w'.cell? ⟨w.heap.size, 0, none⟩ = some (.slice (some ⟨b, off, none⟩) ps.length cap) ∧ w'.cell? ⟨b2, off2 + j, none⟩ = some (.int .i64 i) ∧ w'.cell? ⟨b, off + i * 2, none⟩ = some (.int .i64 X.1) ∧ w'.cell? ⟨b, off + i * 2 + 1, none⟩ = some (.int .i64 X.2) ∧ Gr w2 w' none := by assumption
        have hk3 := hh.1
        have hg3 := hh.2.2.2.2
        go_wp2
        go_roundw
        case rel => exact ⟨j + 1, by omega, by go_num, by rw [E.out], hk3, hg3⟩
        case measure => simp [intOf]; omega
      · have hkl : j = ys.length := by omega
        subst hkl
        clear hat hatq
        go_wp2
        go_ret
        exact ⟨by rw [← HR.out]; rfl, gr_then G2 hg⟩
end Go.Proofs.Ytbbacodhklanjaa
