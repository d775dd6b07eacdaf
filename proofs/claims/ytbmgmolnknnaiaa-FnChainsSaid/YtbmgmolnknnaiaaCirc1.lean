/- CircleIn of the program, walked. -/
import Derived.Test.YtbmgmolnknnaiaaCirc
import Derived.Test.YtbmgmolnknnaiaaSlc
namespace Go.Proofs.Ytbmgmolnknnaiaa
open Go.RowKit

set_option maxHeartbeats 1000000 in
theorem circleIn_any {v : Value} {xs : List Int} (w : World) (h : Ints w v xs) :
    Calls Try.prog 25 #[v] w (RetI 3 w (circL xs)) := by
  have H := hid h
  obtain ⟨_, ad, cap, rfl, hcap, hmax, hat⟩ := h
  unfold maxLen at hmax
  by_cases hn : xs.length ≤ 20
  · have HC : Hid (circL xs = circTo xs xs.length) := if_pos hn
    have hn' : (xs.length : Int) ≤ 20 := by omega
    obtain ⟨i0, hi, hz0, hz1, hz2⟩ := info_parts info_int
    go_enter Try.func25, Try.ntmps25
    go_wp2_with fail
    go_loopw [3, 12] (fun u i wr => ∃ k : Nat, k ≤ xs.length ∧ i = .int .i64 k ∧ wr.ownsRow w.heap.size 3 1 u (circTo xs k).length ((circTo xs k).map (Value.int .i64)) ∧ Gr w wr none) (fun _ i _ => xs.length - (intOf i).toNat)
    case atStart => exact ⟨0, Nat.zero_le _, rfl, World.ownsRow_nil _ _ _ _, gr_refl _ _⟩
    case round =>
      obtain ⟨k, hk, rfl, hown, hg⟩ := hrel
      by_cases hlt : k < xs.length
      · obtain ⟨b, off, rfl, hc⟩ : ∃ b off, ad = some ⟨b, off, none⟩ ∧ IntsAt w b off xs := by
          rcases hat with h0 | h0
          · subst h0; simp at hlt
          · exact h0
        have HCE := hid (hc.kept hg (by simp))
        clear hat hc
        have hlt' : (k : Int) < xs.length := by omega
        go_wp2_with fail
        go_loopw [3, 5, 6] (fun u at' st wi => ∃ t a : Nat, u = u3 ∧ t ≤ xs.length ∧ st = .int .i64 t ∧ at' = .int .i64 a ∧ wayAt xs k t = a ∧ a < xs.length ∧ backTo xs k t = false ∧ wi = wr) (fun _ _ st _ => xs.length - (intOf st).toNat)
        case atStart => exact ⟨0, k, rfl, Nat.zero_le _, rfl, rfl, rfl, hlt, rfl, rfl⟩
        case round =>
          obtain ⟨t, a, rfl, ht, rfl, rfl, hway, ha, hback, rfl⟩ := hrel
          have HW := hid hway
          have HB := hid hback
          clear hway hback
          by_cases hlt2 : t < xs.length
          · have hcell := HCE.out a ha
            have HN : Hid (wayAt xs k (t + 1) = gi xs a) := by
              show nx xs (wayAt xs k t) = _
              rw [HW.out]; exact if_pos ⟨by omega, by omega⟩
            have lta : (a : Int) < xs.length := by omega
            have ltt : (t : Int) < xs.length := by omega
            generalize hy : gi xs a = y at *
            have HY := hid hy
            clear hy
            cases hI : inB y 0 ((xs.length : Int) - 1)
            · have HF : Hid (backTo xs k xs.length = false) := by
                by_cases e : y = k
                · subst e; rw [inB_mk (by omega)] at hI; cases hI
                · refine backTo_out (t := t + 1) hlt (by simp [backTo, HB.out, HN.out, e]) ?_ _
                  rw [HN.out]; intro hh; rw [inB_mk (by omega)] at hI; cases hI
              have HI := hid hI
              clear hI
              go_wp2_with (go_at_call 29; refine (within_any _ _ _ _).mono ?_; rw [HI.out]; rintro e w' ⟨rfl, rfl⟩)
              go_roundw
              case rel => exact ⟨k + 1, by omega, by go_num, by rw [circTo, HF.out]; exact hown, hg⟩
              case measure => simp [intOf]; omega
            · have hyb := inB_true hI
              have HI := hid hI
              clear hI
              by_cases hyk : y = (k : Int)
              · have HF : Hid (backTo xs k xs.length = true) := backTo_true (t := t + 1) (by omega) (by rw [HN.out, hyk]) _ (by omega)
                have hyk' : (y == (k : Int)) = true := by simp [hyk]
                clear hyk
                have hsz := gr_le hg
                have hL : (circTo xs k).length ≤ 20 := by have := circTo_length xs k; omega
                have E : Hid (circTo xs (k + 1) = circTo xs k ++ [(k : Int)]) := by rw [circTo, HF.out]; exact if_pos rfl
                go_wp2_with (first | (go_at_call 29; refine (within_any _ _ _ _).mono ?_; rw [HI.out]; rintro e w' ⟨rfl, rfl⟩) | (at_builtin; refine wpList_append_own _ rfl _ _ 39 rfl w.heap.size 3 i0 (.int .i64 0) 1 8 Try.underlying39 hi hz0 hz1 hz2 rfl (by decide) _ _ _ rfl (hown.alloc _) ⟨wr.heap.size, 0, none⟩ 1 1 [.int .i64 k] rfl rfl (new_one _ _ _) (one_int _) (by unfold maxLen; omega) (by omega) (by simp; omega) ?_))
                intro v' w3 hown' hgrow _
                have hg3 : Gr w w3 none := gr_trans (gr_alloc hg _) hgrow (fun j e => .inr (hown.lt j e).1)
                have HOW := hid hown'
                clear hown' hgrow hown
                go_wp2
                go_roundw
                case rel => exact ⟨k + 1, by omega, by go_num, by rw [E.out, List.length_append, List.map_append]; exact HOW.out, hg3⟩
                case measure => simp [intOf]; omega
              · have hyk' : (y == (k : Int)) = false := by simp [hyk]
                have HF : Hid (backTo xs k (t + 1) = false) := by simp [backTo, HB.out, HN.out, hyk, Hid]
                obtain ⟨a', rfl⟩ := Int.eq_ofNat_of_zero_le hyb.1
                clear hyk
                go_wp2_with (go_at_call 29; refine (within_any _ _ _ _).mono ?_; rw [HI.out]; rintro e w' ⟨rfl, rfl⟩)
                go_roundw
                case rel => exact ⟨t + 1, a', rfl, by omega, by go_num, rfl, HN.out, by omega, HF.out, trivial⟩
                case measure => simp [intOf]; omega
          · have HF : Hid (backTo xs k xs.length = false) := by
              have e : t = xs.length := by omega
              rw [← e]; exact HB.out
            have ltt : ¬ (t : Int) < xs.length := by omega
            go_wp2
            go_roundw
            case rel => exact ⟨k + 1, by omega, by go_num, by rw [circTo, HF.out]; exact hown, hg⟩
            case measure => simp [intOf]; omega
      · have hkl : k = xs.length := by omega
        have hge : ¬ (k : Int) < xs.length := by omega
        clear hat
        have HO : Hid (OwnI 3 wr w.heap.size u3 (circL xs)) := ⟨fun x hx => by rw [HC.out] at hx; have := circTo_mem _ _ x hx; unfold I64; omega, by rw [HC.out, ← hkl]; exact hown⟩
        clear hown
        go_wp2
        go_ret
        exact ⟨_, rfl, HO.out, hg⟩
  · have HC : Hid (circL xs = []) := if_neg hn
    have hn' : (20 : Int) < xs.length := by omega
    clear hat
    go_enter Try.func25, Try.ntmps25
    go_wp2
    go_ret
    exact ⟨_, rfl, ⟨by simp [HC.out], by rw [HC.out]; exact World.ownsRow_nil _ _ _ _⟩, gr_refl _ _⟩
end Go.Proofs.Ytbmgmolnknnaiaa
