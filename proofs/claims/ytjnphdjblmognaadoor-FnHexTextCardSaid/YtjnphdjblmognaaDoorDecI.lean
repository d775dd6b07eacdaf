/- DecodeHex of the program, walked. -/
import Derived.Test.YtjnphdjblmognaaDoorDec
namespace Go.Proofs.YtjnphdjblmognaaDoor
open Go.RowKit

theorem decodeHex_any (s : ByteArray) (w : World) (hmx : s.size ≤ 1048576) :
    Calls Tryd.prog 12 #[.string s] w (RetTxt w (decT s) (decQ s)) := by
  by_cases h2 : s.size % 2 = 0
  by_cases hs : s.size ≤ 40000
  · obtain ⟨m, hm⟩ : ∃ m, s.size = 2 * m := ⟨s.size / 2, by omega⟩
    have hq : decQ s = decOkTo s (2 * m) := by rw [decQ, decide_eq_true h2, decide_eq_true hs, hm]; rfl
    have ht : decOkTo s (2 * m) = true → decT s = strOfNums (decTo s m) := fun h => by rw [decT, hq, h, if_pos rfl, hm, show 2 * m / 2 = m by omega]
    have hf : decOkTo s (2 * m) = false → decT s = ByteArray.empty := fun h => by rw [decT, hq, h]; rfl
    rw [hq]
    have HT := hid (And.intro ht hf)
    have HM := hid hm
    clear ht hf hq
    obtain ⟨i0, hi, hz0, hz1, hz2⟩ := info_parts info_u8
    have hne : ((s.size : Int) % 2 == 1) = false := by simp; omega
    have hdv : decide ((20000 : Int) < (s.size : Int) / 2) = false := by simp; omega
    have hm2 : m ≤ 20000 := by omega
    have hs2 : s.size ≤ 40000 := hs
    clear hm hs
    go_enter Tryd.func12, Tryd.ntmps12
    go_wp2_with fail
    go_loopw [4, 5, 6, 7] (fun u hf i _ wr => ∃ j k : Nat, ∃ hv : Int, j ≤ s.size ∧ k = j / 2 ∧ i = .int .i64 j ∧ hf = .int .i64 hv ∧ 0 ≤ hv ∧ hv ≤ 15 ∧ (j % 2 = 1 → hv = hx s (j - 1)) ∧ decOkTo s j = true ∧ wr.ownsRow w.heap.size 5 1 u k ((decTo s k).map (Value.int .u8)) ∧ Gr w wr none) (fun _ _ i _ _ => s.size - (intOf i).toNat)
    case atStart => exact ⟨0, 0, 0, by omega, rfl, rfl, rfl, by omega, by omega, by intro h; omega, rfl, World.ownsRow_nil _ _ _ _, gr_refl _ _⟩
    case round =>
      obtain ⟨j, k, hv, hj, hk, rfl, rfl, hv0, hv1, hpar, hok, hown, hg⟩ := hrel
      have hsz := gr_le hg
      have HO := hid hok
      have HP := hid hpar
      have HK := hid hk
      clear hok hpar hk
      by_cases hlt : j < s.size
      · have lt1 : (j : Int) < s.size := by omega
        have hbt := bt_eq hlt
        have BB := hid (bt_bd s j)
        have hkm : k ≤ 20000 := by have := HK.out; omega
        have hcl : (48 ≤ bt s j ∧ bt s j ≤ 57) ∨ (48 ≤ bt s j ∧ 57 < bt s j ∧ 97 ≤ bt s j ∧ bt s j ≤ 102) ∨ (bt s j < 48 ∧ bt s j < 97) ∨ (48 ≤ bt s j ∧ 57 < bt s j ∧ bt s j < 97) ∨ (48 ≤ bt s j ∧ 57 < bt s j ∧ 97 ≤ bt s j ∧ 102 < bt s j) := by omega
        rcases hcl with ⟨a1, a2⟩ | ⟨a1, a2, a3, a4⟩ | ⟨a1, a2⟩ | ⟨a1, a2, a3⟩ | ⟨a1, a2, a3, a4⟩
        · have hX : hx s j = bt s j - 48 := hexN_dig a1 a2
          have HG := hid (decOkTo_succ HO.out (show 0 ≤ hx s j by rw [hX]; omega))
          have HX := hid hX
          clear hX
          generalize bt s j = x at *
          have m1 : (x - 48) % 256 = x - 48 := by omega
          have m2 : IntKind.u8.wrap (x - 48) = x - 48 := by simp [IntKind.wrap, IntKind.bits, IntKind.signed]; omega
          by_cases hp : j % 2 = 1
          · have hp' : ((j : Int) % 2 == 1) = true := by simp; omega
            have E : Hid (decTo s (k + 1) = decTo s k ++ [16 * hv + (x - 48)]) := by
              have e1 : j = 2 * k + 1 := by have := HK.out; omega
              have e2 := HP.out hp
              rw [show j - 1 = 2 * k by omega] at e2
              have e3 := HX.out
              rw [e1] at e3
              show decTo s k ++ [16 * hx s (2 * k) + hx s (2 * k + 1)] = _
              rw [← e2, e3]
              all_goals (congr 2; omega)
            have m3 : (16 * hv + (x - 48)) % 256 = 16 * hv + (x - 48) := by omega
            go_wp2_with (at_builtin; refine wpList_append_own _ rfl _ _ 22 rfl w.heap.size 5 i0 (.int .u8 0) 1 1 Tryd.underlying22 hi hz0 hz1 hz2 rfl (by decide) _ _ _ rfl (hown.alloc _) ⟨wr.heap.size, 0, none⟩ 1 1 [.int .u8 (16 * hv + (x - 48))] rfl rfl (new_one _ _ _) (one_u8 _) (by unfold maxLen; omega) (by omega) (by simp; omega) ?_)
            intro v' w3 hown' hgrow _
            have hg3 : Gr w w3 none := gr_trans (gr_alloc hg _) hgrow (fun j e => .inr (hown.lt j e).1)
            have HOW := hid hown'
            clear hown' hgrow hown
            go_wp2
            go_roundw
            case rel => exact ⟨j + 1, k + 1, x - 48, by omega, by have := HK.out; omega, by go_num, by go_num, by omega, by omega, by intro h; omega, HG.out, by rw [E.out, List.map_append]; exact HOW.out, hg3⟩
            case measure => simp [intOf]; omega
          · have hp' : ((j : Int) % 2 == 1) = false := by simp; omega
            go_wp2
            go_roundw
            case rel => exact ⟨j + 1, k, x - 48, by omega, by have := HK.out; omega, by go_num, by go_num, by omega, by omega, by intro h; rw [Nat.add_sub_cancel, HX.out] <;> omega, HG.out, hown, hg⟩
            case measure => simp [intOf]; omega
        · have hX : hx s j = bt s j - 87 := hexN_let a3 a4
          have HG := hid (decOkTo_succ HO.out (show 0 ≤ hx s j by rw [hX]; omega))
          have HX := hid hX
          clear hX
          generalize bt s j = x at *
          have m1 : (x - 97) % 256 = x - 97 := by omega
          have m2 : IntKind.u8.wrap (x - 97) = x - 97 := by simp [IntKind.wrap, IntKind.bits, IntKind.signed]; omega
          by_cases hp : j % 2 = 1
          · have hp' : ((j : Int) % 2 == 1) = true := by simp; omega
            have E : Hid (decTo s (k + 1) = decTo s k ++ [16 * hv + (x - 97 + 10)]) := by
              have e1 : j = 2 * k + 1 := by have := HK.out; omega
              have e2 := HP.out hp
              rw [show j - 1 = 2 * k by omega] at e2
              have e3 := HX.out
              rw [e1] at e3
              show decTo s k ++ [16 * hx s (2 * k) + hx s (2 * k + 1)] = _
              rw [← e2, e3]
              all_goals (congr 2; omega)
            have m3 : (16 * hv + (x - 97 + 10)) % 256 = 16 * hv + (x - 97 + 10) := by omega
            go_wp2_with (at_builtin; refine wpList_append_own _ rfl _ _ 22 rfl w.heap.size 5 i0 (.int .u8 0) 1 1 Tryd.underlying22 hi hz0 hz1 hz2 rfl (by decide) _ _ _ rfl (hown.alloc _) ⟨wr.heap.size, 0, none⟩ 1 1 [.int .u8 (16 * hv + (x - 97 + 10))] rfl rfl (new_one _ _ _) (one_u8 _) (by unfold maxLen; omega) (by omega) (by simp; omega) ?_)
            intro v' w3 hown' hgrow _
            have hg3 : Gr w w3 none := gr_trans (gr_alloc hg _) hgrow (fun j e => .inr (hown.lt j e).1)
            have HOW := hid hown'
            clear hown' hgrow hown
            go_wp2
            go_roundw
            case rel => exact ⟨j + 1, k + 1, x - 97 + 10, by omega, by have := HK.out; omega, by go_num, by go_num, by omega, by omega, by intro h; omega, HG.out, by rw [E.out, List.map_append]; exact HOW.out, hg3⟩
            case measure => simp [intOf]; omega
          · have hp' : ((j : Int) % 2 == 1) = false := by simp; omega
            go_wp2
            go_roundw
            case rel => exact ⟨j + 1, k, x - 97 + 10, by omega, by have := HK.out; omega, by go_num, by go_num, by omega, by omega, by intro h; rw [Nat.add_sub_cancel, HX.out] <;> omega, HG.out, hown, hg⟩
            case measure => simp [intOf]; omega
        · have HB := hid (decOkTo_bad (i := j) (show ¬ 0 ≤ hexN (bt s j) by rw [hexN_no (by omega) (by omega)]; omega) (2 * m) (by have := HM.out; omega))
          clear HO
          go_wp2
          go_ret2
          exact ⟨by rw [HB.out, HT.out.2 HB.out]; rfl, hg⟩
        · have HB := hid (decOkTo_bad (i := j) (show ¬ 0 ≤ hexN (bt s j) by rw [hexN_no (by omega) (by omega)]; omega) (2 * m) (by have := HM.out; omega))
          clear HO
          go_wp2
          go_ret2
          exact ⟨by rw [HB.out, HT.out.2 HB.out]; rfl, hg⟩
        · have HB := hid (decOkTo_bad (i := j) (show ¬ 0 ≤ hexN (bt s j) by rw [hexN_no (by omega) (by omega)]; omega) (2 * m) (by have := HM.out; omega))
          clear HO
          go_wp2
          go_ret2
          exact ⟨by rw [HB.out, HT.out.2 HB.out]; rfl, hg⟩
      · have hge : ¬ (j : Int) < s.size := by omega
        have e1 : k = m := by have := HK.out; have := HM.out; omega
        have e2 : j = 2 * m := by have := HM.out; omega
        have hcv := str_own hown (decTo_length _ _)
        have HF : Hid (decOkTo s (2 * m) = true ∧ decT s = strOfNums (decTo s k)) := ⟨by rw [← e2]; exact HO.out, by rw [e1]; exact HT.out.1 (by rw [← e2]; exact HO.out)⟩
        clear e1 e2
        go_wp2
        go_ret2
        exact ⟨by rw [HF.out.1, HF.out.2]; rfl, hg⟩
  · have hq : decQ s = false := by rw [decQ, decide_eq_false hs]; simp
    have ht : decT s = ByteArray.empty := by rw [decT, hq]; rfl
    rw [hq, ht]
    clear hq ht
    have hne : ((s.size : Int) % 2 == 1) = false := by simp; omega
    have hdv : (20000 : Int) < (s.size : Int) / 2 := by omega
    have hmx' : (s.size : Int) ≤ 1048576 := by omega
    go_enter Tryd.func12, Tryd.ntmps12
    go_wp2
    go_ret2
    exact ⟨rfl, gr_refl _ _⟩
  · have hq : decQ s = false := by rw [decQ, decide_eq_false h2]; rfl
    have ht : decT s = ByteArray.empty := by rw [decT, hq]; rfl
    rw [hq, ht]
    clear hq ht
    have hne : ((s.size : Int) % 2 == 1) = true := by simp; omega
    go_enter Tryd.func12, Tryd.ntmps12
    go_wp2
    go_ret2
    exact ⟨rfl, gr_refl _ _⟩
end Go.Proofs.YtjnphdjblmognaaDoor
