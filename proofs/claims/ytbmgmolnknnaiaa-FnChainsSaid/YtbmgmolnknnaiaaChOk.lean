/- Whether a chain is in order: the program's walk. -/
import Derived.Test.YtbmgmolnknnaiaaChain
import Derived.Test.YtbmgmolnknnaiaaCirc2
import Derived.Test.YtbmgmolnknnaiaaRain1
namespace Go.Proofs.Ytbmgmolnknnaiaa
open Go.RowKit

def cistAll (ps : List (Int × Int)) : Bool := ps.all fun p => cistB p.1 p.2
theorem cistAll_mk {ps : List (Int × Int)} (h : ∀ i, i < ps.length → cistB (gp ps i).1 (gp ps i).2 = true) : cistAll ps = true := by
  simp only [cistAll, List.all_eq_true]
  intro x hx
  obtain ⟨i, hi, rfl⟩ := List.mem_iff_getElem.1 hx
  have := h i hi
  rwa [show gp ps i = ps[i] by simp [gp, List.getD, hi]] at this
theorem cistAll_get {ps : List (Int × Int)} (h : cistAll ps = true) {i : Nat} (hi : i < ps.length) : cistB (gp ps i).1 (gp ps i).2 = true := by
  simp only [cistAll, List.all_eq_true] at h
  exact h _ (gp_mem hi)
theorem cistAll_no {ps : List (Int × Int)} {i : Nat} (hi : i < ps.length) (h : cistB (gp ps i).1 (gp ps i).2 = false) : cistAll ps = false := by
  cases e : cistAll ps
  · rfl
  · rw [cistAll_get e hi] at h; cases h
def CistTo (ps : List (Int × Int)) (k : Nat) : Prop := ∀ i, i < k → cistB (gp ps i).1 (gp ps i).2 = true
theorem cistTo_succ {ps : List (Int × Int)} {k : Nat} (h : CistTo ps k) (h' : cistB (gp ps k).1 (gp ps k).2 = true) : CistTo ps (k + 1) := by
  intro i hi
  by_cases e : i = k
  · subst e; exact h'
  · exact h i (by omega)
/-- The chain is in order. -/
def chainB (ps : List (Int × Int)) (xs : List Int) : Bool := inB ps.length 1 10 && decide (xs.length = ps.length) && allB xs (-1) (ps.length - 1) && cistAll ps && decide ((circL xs).length = 0)
theorem chainOk_any {u v : Value} {ps : List (Int × Int)} {xs : List Int} (w : World) (hu : Pairs w u ps) (hv : Ints w v xs) :
    Calls Try.prog 24 #[.agg #[u, v]] w fun e w' => e = .returned (.bool (chainB ps xs)) ∧ Gr w w' none := by
  have HU := hid hu
  have HV := hid hv
  obtain ⟨_, a, cap, rfl, hcap, hmax, hat⟩ := hu
  obtain ⟨_, a', cap', rfl, hcap', hmax', hat'⟩ := hv
  unfold maxLen at hmax hmax'
  clear hat'
  cases hn : inB (ps.length : Int) 1 10
  · have HC : Hid (chainB ps xs = false) := by simp [chainB, hn, Hid]
    clear hat
    go_enter Try.func24, Try.ntmps24
    go_wp2_with (go_at_call 29; refine (within_any _ _ _ _).mono ?_; rw [hn]; rintro e w' ⟨rfl, rfl⟩)
    go_ret
    exact ⟨by rw [HC.out]; rfl, (by repeat (first | (with_reducible exact gr_refl _ _) | (with_reducible assumption) | (with_reducible refine gr_drew ?_) | (with_reducible refine gr_drewN ?_ _) | (with_reducible refine gr_alloc ?_ _) | (with_reducible refine gr_set ?_ (.inr (by simp; done)) _) | (with_reducible refine gr_set ?_ (.inr (by simp; omega)) _) | (with_reducible refine gr_then ?_ (by with_reducible assumption))))⟩
  have hnb := inB_true hn
  by_cases hl : xs.length = ps.length
  · have hne : ((xs.length : Int) != (ps.length : Int)) = false := by simp [hl]
    have HL := hid hl
    clear hl
    cases ha : allB xs (-1) ((ps.length : Int) - 1)
    · have HC : Hid (chainB ps xs = false) := by simp [chainB, ha, Hid]
      clear hat
      have HN := hid hn
      have HA := hid ha
      clear hn ha
      go_enter Try.func24, Try.ntmps24
      go_wp2_with (first | (go_at_call 29; refine (within_any _ _ _ _).mono ?_; rw [HN.out]; rintro e w' ⟨rfl, rfl⟩) | (go_at_call 35; refine (allWithin_any _ _ _ (HV.out.on (by repeat (first | (with_reducible exact gr_refl _ _) | (with_reducible assumption) | (with_reducible refine gr_drew ?_) | (with_reducible refine gr_drewN ?_ _) | (with_reducible refine gr_alloc ?_ _) | (with_reducible refine gr_set ?_ (.inr (by simp; done)) _) | (with_reducible refine gr_set ?_ (.inr (by simp; omega)) _) | (with_reducible refine gr_then ?_ (by with_reducible assumption)))))).mono ?_; rw [HA.out]; rintro e w' ⟨rfl, rfl⟩))
      go_ret
      exact ⟨by rw [HC.out]; rfl, (by repeat (first | (with_reducible exact gr_refl _ _) | (with_reducible assumption) | (with_reducible refine gr_drew ?_) | (with_reducible refine gr_drewN ?_ _) | (with_reducible refine gr_alloc ?_ _) | (with_reducible refine gr_set ?_ (.inr (by simp; done)) _) | (with_reducible refine gr_set ?_ (.inr (by simp; omega)) _) | (with_reducible refine gr_then ?_ (by with_reducible assumption))))⟩
    · have HN := hid hn
      have HA := hid ha
      clear hn ha
      go_enter Try.func24, Try.ntmps24
      go_wp2_with (first | (go_at_call 29; refine (within_any _ _ _ _).mono ?_; rw [HN.out]; rintro e w' ⟨rfl, rfl⟩) | (go_at_call 35; refine (allWithin_any _ _ _ (HV.out.on (by repeat (first | (with_reducible exact gr_refl _ _) | (with_reducible assumption) | (with_reducible refine gr_drew ?_) | (with_reducible refine gr_drewN ?_ _) | (with_reducible refine gr_alloc ?_ _) | (with_reducible refine gr_set ?_ (.inr (by simp; done)) _) | (with_reducible refine gr_set ?_ (.inr (by simp; omega)) _) | (with_reducible refine gr_then ?_ (by with_reducible assumption)))))).mono ?_; rw [HA.out]; rintro e w' ⟨rfl, rfl⟩))
      go_loopw [30] (fun i wr => ∃ k : Nat, k ≤ ps.length ∧ i = .int .i64 k ∧ CistTo ps k ∧ Gr w wr none ∧ wr.cell? ⟨w.heap.size, 1, none⟩ = some (.slice a' xs.length cap') ∧ w.heap.size < wr.heap.size) (fun i _ => ps.length - (intOf i).toNat)
      case atStart => exact ⟨0, Nat.zero_le _, rfl, fun i h => by omega, (by repeat (first | (with_reducible exact gr_refl _ _) | (with_reducible assumption) | (with_reducible refine gr_drew ?_) | (with_reducible refine gr_drewN ?_ _) | (with_reducible refine gr_alloc ?_ _) | (with_reducible refine gr_set ?_ (.inr (by simp; done)) _) | (with_reducible refine gr_set ?_ (.inr (by simp; omega)) _) | (with_reducible refine gr_then ?_ (by with_reducible assumption)))), by simp, by simp⟩
      case round =>
        obtain ⟨k, hk, rfl, hall, hg, hcv, hsz⟩ := hrel
        have HAL := hid hall
        clear hall
        by_cases hlt : k < ps.length
        · obtain ⟨b, off, rfl, hc⟩ : ∃ b off, a = some ⟨b, off, none⟩ ∧ PairsAt w b off ps := by
            rcases hat with h0 | h0
            · subst h0; simp at hlt
            · exact h0
          obtain ⟨c1, c2⟩ := (hc.kept hg (by simp)) k hlt
          clear hc hat
          cases hb : cistB (gp ps k).1 (gp ps k).2
          · have HC : Hid (chainB ps xs = false) := by simp [chainB, cistAll_no hlt hb, Hid]
            have HB := hid hb
            clear hb
            go_wp2_with fail
            refine (cisternOk_any _ _ _).mono ?_
            rw [HB.out]
            rintro e w2 ⟨rfl, g2⟩
            go_wp2
            go_ret
            exact ⟨by rw [HC.out]; rfl, gr_then (gr_alloc hg _) g2⟩
          · have HB := hid hb
            clear hb
            go_wp2_with fail
            refine (cisternOk_any _ _ _).mono ?_
            rw [HB.out]
            rintro e w2 ⟨rfl, g2⟩
            have hcv2 := (gr_cell g2 w.heap.size 1 (by simp; omega)).trans ((World.cell?_alloc_lt _ _ _ (by simp; omega)).trans hcv)
            have hsz2 := gr_le g2
            simp only [World.size_alloc] at hsz2
            have hg2 := gr_then (gr_alloc hg _) g2
            clear c1 c2 hcv g2 hg
            go_wp2
            go_roundw
            case rel => exact ⟨k + 1, by omega, by go_num, cistTo_succ HAL.out HB.out, hg2, hcv2, by omega⟩
            case measure => simp [intOf]; omega
        · have hca : cistAll ps = true := cistAll_mk fun i hi => HAL.out i (by omega)
          have HC : Hid (chainB ps xs = decide ((circL xs).length = 0)) := by simp [chainB, HN.out, HL.out, HA.out, hca, Hid]
          clear hca hat
          go_wp2_with fail
          refine (circleIn_any _ (HV.out.on hg)).mono ?_
          rintro e w2 ⟨q, rfl, oq, g2⟩
          obtain ⟨aq, cq, rfl⟩ : ∃ a c, q = .slice a (circL xs).length c := by obtain ⟨_, a, c, e, _⟩ := oq.ints; exact ⟨a, c, e⟩
          by_cases h0 : (circL xs).length = 0
          · have h0' : (((circL xs).length : Int) == 0) = true := by simp [h0]
            have HD : Hid (chainB ps xs = true) := by rw [HC.out]; simp [h0, Hid]
            clear h0
            go_wp2
            go_ret
            exact ⟨by rw [HD.out]; rfl, gr_then hg g2⟩
          · have h0' : (((circL xs).length : Int) == 0) = false := by simpa using h0
            have HD : Hid (chainB ps xs = false) := by rw [HC.out]; simp [h0, Hid]
            clear h0
            go_wp2
            go_ret
            exact ⟨by rw [HD.out]; rfl, gr_then hg g2⟩
  · have hne : ((xs.length : Int) != (ps.length : Int)) = true := by simp; omega
    have HC : Hid (chainB ps xs = false) := by simp [chainB, hl, Hid]
    clear hat hl
    have HN := hid hn
    clear hn
    go_enter Try.func24, Try.ntmps24
    go_wp2_with (go_at_call 29; refine (within_any _ _ _ _).mono ?_; rw [HN.out]; rintro e w' ⟨rfl, rfl⟩)
    go_ret
    exact ⟨by rw [HC.out]; rfl, (by repeat (first | (with_reducible exact gr_refl _ _) | (with_reducible assumption) | (with_reducible refine gr_drew ?_) | (with_reducible refine gr_drewN ?_ _) | (with_reducible refine gr_alloc ?_ _) | (with_reducible refine gr_set ?_ (.inr (by simp; done)) _) | (with_reducible refine gr_set ?_ (.inr (by simp; omega)) _) | (with_reducible refine gr_then ?_ (by with_reducible assumption))))⟩
end Go.Proofs.Ytbmgmolnknnaiaa
