/- Whether a chain is in order: the model's walk. -/
import Derived.Test.YtbbacodhklanjaaChOk
namespace Go.Proofs.Ytbbacodhklanjaa
open Go.RowKit

theorem sChainOk_any {u v : Value} {ps : List (Int × Int)} {xs : List Int} (w : World) (hu : Pairs w u ps) (hv : Ints w v xs) :
    Calls Try.prog 41 #[.agg #[u, v]] w fun e w' => e = .returned (.bool (chainB ps xs)) ∧ Gr w w' none := by
  have HU := hid hu
  have HV := hid hv
  obtain ⟨_, a, cap, rfl, hcap, hmax, hat⟩ := hu
  obtain ⟨_, a', cap', rfl, hcap', hmax', hat'⟩ := hv
  unfold maxLen at hmax hmax'
  cases hn : inB (ps.length : Int) 1 10
  · have HC : Hid (chainB ps xs = false) := by simp [chainB, hn, Hid]
    have HN := hid hn
    clear hat hat' hn
    go_enter Try.func41, Try.ntmps41
    go_wp2_with (go_at_call 58; refine (l01In_any _ _ _ _).mono ?_; rw [HN.out]; rintro e w' ⟨rfl, rfl⟩)
    go_ret
    exact ⟨by rw [HC.out]; rfl, (by repeat (first | (with_reducible exact gr_refl _ _) | (with_reducible assumption) | (with_reducible refine gr_drew ?_) | (with_reducible refine gr_drewN ?_ _) | (with_reducible refine gr_alloc ?_ _) | (with_reducible refine gr_set ?_ (.inr (by simp; done)) _) | (with_reducible refine gr_set ?_ (.inr (by simp; omega)) _) | (with_reducible refine gr_then ?_ (by with_reducible assumption))))⟩
  have hnb := inB_true hn
  have HN := hid hn
  clear hn
  by_cases hl : xs.length = ps.length
  · have hne : ((xs.length : Int) != (ps.length : Int)) = false := by simp [hl]
    have HL := hid hl
    clear hl
    go_enter Try.func41, Try.ntmps41
    go_wp2_with (go_at_call 58; refine (l01In_any _ _ _ _).mono ?_; rw [HN.out]; rintro e w' ⟨rfl, rfl⟩)
    go_loopw [4] (fun i wr => ∃ k : Nat, k ≤ ps.length ∧ i = .int .i64 k ∧ CistTo ps k ∧ AllTo xs (-1) ((ps.length : Int) - 1) k ∧ Gr w wr none ∧ wr.cell? ⟨w.heap.size, 0, none⟩ = some (.slice a ps.length cap) ∧ wr.cell? ⟨w.heap.size, 1, none⟩ = some (.slice a' xs.length cap') ∧ w.heap.size < wr.heap.size) (fun i _ => ps.length - (intOf i).toNat)
    case atStart => exact ⟨0, Nat.zero_le _, rfl, fun i h => by omega, allTo_zero _ _ _, (by repeat (first | (with_reducible exact gr_refl _ _) | (with_reducible assumption) | (with_reducible refine gr_drew ?_) | (with_reducible refine gr_drewN ?_ _) | (with_reducible refine gr_alloc ?_ _) | (with_reducible refine gr_set ?_ (.inr (by simp; done)) _) | (with_reducible refine gr_set ?_ (.inr (by simp; omega)) _) | (with_reducible refine gr_then ?_ (by with_reducible assumption)))), by simp, by simp, by simp⟩
    case round =>
      obtain ⟨k, hk, rfl, hall, hin, hg, hcu, hcv, hsz⟩ := hrel
      have HAL := hid hall
      have HIN := hid hin
      clear hall hin
      by_cases hlt : k < ps.length
      · have hlt2 : k < xs.length := by have := HL.out; omega
        obtain ⟨b, off, rfl, hc⟩ : ∃ b off, a = some ⟨b, off, none⟩ ∧ PairsAt w b off ps := by
          rcases hat with h0 | h0
          · subst h0; simp at hlt
          · exact h0
        obtain ⟨b', off', rfl, hc'⟩ : ∃ b off, a' = some ⟨b, off, none⟩ ∧ IntsAt w b off xs := by
          rcases hat' with h0 | h0
          · subst h0; simp at hlt2
          · exact h0
        obtain ⟨c1, c2⟩ := (hc.kept hg (by simp)) k hlt
        have h1 : (k : Int) < (ps.length : Int) := by omega
        have h2 : (k : Int) < (xs.length : Int) := by omega
        cases hb : cistB (gp ps k).1 (gp ps k).2
        · have HC : Hid (chainB ps xs = false) := by simp [chainB, cistAll_no hlt hb, Hid]
          have HB := hid hb
          clear hb hc hat hc' hat'
          go_wp2_with fail
          refine (sCisternOk_any _ _ _).mono ?_
          rw [HB.out]
          rintro e w2 ⟨rfl, g2⟩
          go_wp2
          go_ret
          exact ⟨by rw [HC.out]; rfl, gr_then hg g2⟩
        · have HB := hid hb
          clear hb
          go_wp2_with fail
          refine (sCisternOk_any _ _ _).mono ?_
          rw [HB.out]
          rintro e w2 ⟨rfl, g2⟩
          have hcu2 := (gr_cell g2 w.heap.size 0 hsz).trans hcu
          have hcv2 := (gr_cell g2 w.heap.size 1 hsz).trans hcv
          have hsz2 := gr_le g2
          have hg2 := gr_then hg g2
          have c3 := (hc'.kept hg2 (by simp)) k hlt2
          clear c1 c2 hcu hcv g2 hg hc hat hc' hat'
          cases hi : inB (gi xs k) (-1) ((ps.length : Int) - 1)
          · have HC : Hid (chainB ps xs = false) := by simp [chainB, allB_no hlt2 hi, Hid]
            have HI := hid hi
            clear hi
            go_wp2_with (go_at_call 58; refine (l01In_any _ _ _ _).mono ?_; rw [HI.out]; rintro e w' ⟨rfl, rfl⟩)
            go_ret
            exact ⟨by rw [HC.out]; rfl, hg2⟩
          · have HI := hid hi
            clear hi
            go_wp2_with (go_at_call 58; refine (l01In_any _ _ _ _).mono ?_; rw [HI.out]; rintro e w' ⟨rfl, rfl⟩)
            go_roundw
            case rel => exact ⟨k + 1, by omega, by go_num, cistTo_succ HAL.out HB.out, allTo_succ HIN.out HI.out, hg2, hcu2, hcv2, by omega⟩
            case measure => simp [intOf]; omega
      · have hca : cistAll ps = true := cistAll_mk fun i hi => HAL.out i (by omega)
        have hia : allB xs (-1) ((ps.length : Int) - 1) = true := allB_mk fun i hi => HIN.out i (by have := HL.out; omega)
        have HC : Hid (chainB ps xs = decide ((circL xs).length = 0)) := by simp [chainB, HN.out, HL.out, hia, hca, Hid]
        clear hca hat hia hat'
        go_wp2_with fail
        refine (sCircleIn_any _ (HV.out.on hg)).mono ?_
        rintro e w2 ⟨q, rfl, oq, g2⟩
        obtain ⟨aq, cq, rfl⟩ : ∃ a c, q = .slice a (circL xs).length c := by obtain ⟨_, a, c, e, _⟩ := oq.ints; exact ⟨a, c, e⟩
        by_cases h0 : (circL xs).length = 0
        · have h0' : (((circL xs).length : Int) == 0) = true := by simp [h0]
          have HD : Hid (chainB ps xs = true) := by rw [HC.out]; simp [h0, Hid]
          clear h0
          go_wp2
          go_ret
          exact ⟨by rw [HD.out]; rfl, gr_then hg g2⟩
        · have h0' : (((circL xs).length : Int) == 0) = false := by simpa using h0
          have HD : Hid (chainB ps xs = false) := by rw [HC.out]; simp [h0, Hid]
          clear h0
          go_wp2
          go_ret
          exact ⟨by rw [HD.out]; rfl, gr_then hg g2⟩
  · have hne : ((xs.length : Int) != (ps.length : Int)) = true := by simp; omega
    have HC : Hid (chainB ps xs = false) := by simp [chainB, hl, Hid]
    clear hat hat' hl
    go_enter Try.func41, Try.ntmps41
    go_wp2_with (go_at_call 58; refine (l01In_any _ _ _ _).mono ?_; rw [HN.out]; rintro e w' ⟨rfl, rfl⟩)
    go_ret
    exact ⟨by rw [HC.out]; rfl, (by repeat (first | (with_reducible exact gr_refl _ _) | (with_reducible assumption) | (with_reducible refine gr_drew ?_) | (with_reducible refine gr_drewN ?_ _) | (with_reducible refine gr_alloc ?_ _) | (with_reducible refine gr_set ?_ (.inr (by simp; done)) _) | (with_reducible refine gr_set ?_ (.inr (by simp; omega)) _) | (with_reducible refine gr_then ?_ (by with_reducible assumption))))⟩
end Go.Proofs.Ytbbacodhklanjaa
