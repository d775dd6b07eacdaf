/- DecodeHex, walked. -/
import Derived.Test.YtjnphdjblmognaaHex
namespace Go.Proofs.Ytjnphdjblmognaa
open Go.RowKit

/-- The value of a figure; -1 of another byte. -/
def hexN (x : Int) : Int := if 48 ≤ x ∧ x ≤ 57 then x - 48 else if 97 ≤ x ∧ x ≤ 102 then x - 87 else -1
theorem hexN_bd (x : Int) : -1 ≤ hexN x ∧ hexN x ≤ 15 := by
  unfold hexN; split
  · omega
  · split <;> omega
theorem hexN_dig {x : Int} (h1 : 48 ≤ x) (h2 : x ≤ 57) : hexN x = x - 48 := if_pos ⟨h1, h2⟩
theorem hexN_let {x : Int} (h1 : 97 ≤ x) (h2 : x ≤ 102) : hexN x = x - 87 := by unfold hexN; rw [if_neg (by omega), if_pos ⟨h1, h2⟩]
theorem hexN_no {x : Int} (h1 : ¬ (48 ≤ x ∧ x ≤ 57)) (h2 : ¬ (97 ≤ x ∧ x ≤ 102)) : hexN x = -1 := by unfold hexN; rw [if_neg h1, if_neg h2]
def hx (s : ByteArray) (i : Nat) : Int := hexN (bt s i)
def decOkTo (s : ByteArray) : Nat → Bool
  | 0 => true
  | n + 1 => decOkTo s n && decide (0 ≤ hx s n)
theorem decOkTo_bad {s : ByteArray} {i : Nat} (h : ¬ 0 ≤ hx s i) : ∀ n, i < n → decOkTo s n = false := by
  intro n
  induction n with
  | zero => intro h'; omega
  | succ n ih =>
    intro h'
    by_cases e : i = n
    · subst e; simp [decOkTo, h]
    · simp [decOkTo, ih (by omega)]
theorem decOkTo_succ {s : ByteArray} {n : Nat} (h : decOkTo s n = true) (h' : 0 ≤ hx s n) : decOkTo s (n + 1) = true := by simp [decOkTo, h, h']
def decTo (s : ByteArray) : Nat → List Int
  | 0 => []
  | k + 1 => decTo s k ++ [16 * hx s (2 * k) + hx s (2 * k + 1)]
theorem decTo_length (s : ByteArray) (k : Nat) : (decTo s k).length = k := by
  induction k with
  | zero => rfl
  | succ k ih => simp [decTo, ih]
def decQ (s : ByteArray) : Bool := decide (s.size % 2 = 0) && decide (s.size ≤ 40000) && decOkTo s s.size
def decT (s : ByteArray) : ByteArray := if decQ s then strOfNums (decTo s (s.size / 2)) else ByteArray.empty
theorem one_u8 (x : Int) : ∀ u ∈ [Value.int .u8 x], u.oneCell' = true := by
  intro u hu; simp at hu; subst hu; rfl
theorem bt_eq {s : ByteArray} {i : Nat} (h : i < s.size) : ((s[i].toNat : Nat) : Int) = bt s i := by unfold bt; rw [Array.getElem?_eq_getElem (by simpa using h)]; rfl
theorem l01Value_any (x : Int) (w : World) (h0 : 0 ≤ x) (h1 : x ≤ 255) :
    Calls Try.prog 23 #[.int .u8 x] w fun e w' => e = .returned (.int .i64 (hexN x)) ∧ w = w' := by
  by_cases a1 : 48 ≤ x
  · by_cases a2 : x ≤ 57
    · rw [hexN_dig a1 a2]
      go_enter Try.func23, Try.ntmps23
      go_wp2
      go_ret
      exact ⟨rfl, rfl⟩
    · by_cases a3 : 97 ≤ x
      · by_cases a4 : x ≤ 102
        · rw [hexN_let a3 a4]
          go_enter Try.func23, Try.ntmps23
          go_wp2
          go_ret
          exact ⟨by simp <;> omega, rfl⟩
        · rw [hexN_no (by omega) (by omega)]
          go_enter Try.func23, Try.ntmps23
          go_wp2
          go_ret
          exact ⟨rfl, rfl⟩
      · rw [hexN_no (by omega) (by omega)]
        go_enter Try.func23, Try.ntmps23
        go_wp2
        go_ret
        exact ⟨rfl, rfl⟩
  · rw [hexN_no (by omega) (by omega)]
    have a3 : ¬ 97 ≤ x := by omega
    go_enter Try.func23, Try.ntmps23
    go_wp2
    go_ret
    exact ⟨rfl, rfl⟩
theorem sDecodeHex_any (s : ByteArray) (w : World) :
    Calls Try.prog 11 #[.string s] w (RetTxt w (decT s) (decQ s)) := by
  by_cases hs : s.size ≤ 40000
  by_cases h2 : s.size % 2 = 0
  · obtain ⟨m, hm⟩ : ∃ m, s.size = 2 * m := ⟨s.size / 2, by omega⟩
    have hq : decQ s = decOkTo s (2 * m) := by rw [decQ, decide_eq_true h2, decide_eq_true hs, hm]; rfl
    have ht : decOkTo s (2 * m) = true → decT s = strOfNums (decTo s m) := fun h => by rw [decT, hq, h, if_pos rfl, hm, show 2 * m / 2 = m by omega]
    have hf : decOkTo s (2 * m) = false → decT s = ByteArray.empty := fun h => by rw [decT, hq, h]; rfl
    rw [hq]
    have HT := hid (And.intro ht hf)
    have HM := hid hm
    clear ht hf hq
    obtain ⟨i0, hi, hz0, hz1, hz2⟩ := info_parts info_u8
    have hne : ((s.size : Int) % 2 != 0) = false := by simp; omega
    have hd0 : decide ((40000 : Int) < s.size) = false := by simp; omega
    have hm2 : m ≤ 20000 := by omega
    clear hm
    go_enter Try.func11, Try.ntmps11
    go_wp2_with fail
    go_loopw [4, 5, 6, 7] (fun u i _ _ wr => ∃ k : Nat, k ≤ m ∧ i = .int .i64 (2 * k) ∧ decOkTo s (2 * k) = true ∧ wr.ownsRow w.heap.size 5 1 u k ((decTo s k).map (Value.int .u8)) ∧ Gr w wr none) (fun _ i _ _ _ => s.size - (intOf i).toNat)
    case atStart => exact ⟨0, by omega, rfl, rfl, World.ownsRow_made w #[] 0 (Nat.le_refl _) (by unfold maxLen; omega) rfl, gr_alloc (gr_refl _ _) _⟩
    case round =>
      obtain ⟨k, hk, rfl, hok, hown, hg⟩ := hrel
      have hsz := gr_le hg
      have HO := hid hok
      clear hok
      by_cases hlt : k < m
      · have l1 : 2 * k < s.size := by have := HM.out; omega
        have l2 : 2 * k + 1 < s.size := by have := HM.out; omega
        have lt1 : (2 * (k : Int)) < s.size := by have := HM.out; omega
        have lt2 : (2 * (k : Int) + 1) < s.size := by have := HM.out; omega
        go_wp2_with fail
        refine (l01Value_any _ _ (by omega) (by have := s[2 * k].toNat_lt; omega)).mono ?_
        rw [bt_eq l1, show hexN (bt s (2 * k)) = hx s (2 * k) from rfl]
        rintro e w1 ⟨rfl, rfl⟩
        go_wp2_with fail
        refine (l01Value_any _ _ (by omega) (by have := s[2 * k + 1].toNat_lt; omega)).mono ?_
        rw [bt_eq l2, show hexN (bt s (2 * k + 1)) = hx s (2 * k + 1) from rfl]
        rintro e w1 ⟨rfl, rfl⟩
        have E : Hid (decTo s (k + 1) = decTo s k ++ [16 * hx s (2 * k) + hx s (2 * k + 1)]) := rfl
        have BX := hid (hexN_bd (bt s (2 * k)))
        have BY := hid (hexN_bd (bt s (2 * k + 1)))
        rw [show hexN (bt s (2 * k)) = hx s (2 * k) from rfl] at BX
        rw [show hexN (bt s (2 * k + 1)) = hx s (2 * k + 1) from rfl] at BY
        by_cases b1 : 0 ≤ hx s (2 * k)
        by_cases b2 : 0 ≤ hx s (2 * k + 1)
        · have HO2 := hid (decOkTo_succ (decOkTo_succ HO.out b1) b2)
          generalize hX : hx s (2 * k) = X at *
          generalize hY : hx s (2 * k + 1) = Y at *
          clear hX hY
          have n1 : decide (X < 0) = false := by simp; omega
          have n2 : decide (Y < 0) = false := by simp; omega
          have hx15 : X ≤ 15 := BX.out.2
          have hy15 : Y ≤ 15 := BY.out.2
          have hw : (16 * X + Y) % 256 = 16 * X + Y := by omega
          go_wp2_with (at_builtin; refine wpList_append_own _ rfl _ _ 28 rfl w.heap.size 5 i0 (.int .u8 0) 1 1 Try.underlying28 hi hz0 hz1 hz2 rfl (by decide) _ _ _ rfl (hown.alloc _) ⟨wr.heap.size, 0, none⟩ 1 1 [.int .u8 (16 * X + Y)] rfl rfl (new_one _ _ _) (one_u8 _) (by unfold maxLen; omega) (by omega) (by simp; omega) ?_)
          intro v' w3 hown' hgrow _
          have hg3 : Gr w w3 none := gr_trans (gr_alloc hg _) hgrow (fun j e => .inr (hown.lt j e).1)
          have HOW := hid hown'
          clear hown' hgrow hown
          go_wp2
          go_roundw
          case rel => exact ⟨k + 1, by omega, by go_num, HO2.out, by rw [E.out, List.map_append]; exact HOW.out, hg3⟩
          case measure => have := HM.out; simp [intOf]; omega
        · have HB := hid (decOkTo_bad b2 (2 * m) (by omega))
          clear HO
          go_wp2
          go_ret2
          exact ⟨by rw [HB.out, HT.out.2 HB.out]; rfl, hg⟩
        · have HB := hid (decOkTo_bad b1 (2 * m) (by omega))
          clear HO
          go_wp2
          go_ret2
          exact ⟨by rw [HB.out, HT.out.2 HB.out]; rfl, hg⟩
      · obtain rfl : k = m := by omega
        have hge : ¬ (2 * (k : Int)) < s.size := by have := HM.out; omega
        have hcv := str_own hown (decTo_length _ _)
        go_wp2
        go_ret2
        exact ⟨by rw [HO.out, HT.out.1 HO.out]; rfl, hg⟩
  · have hq : decQ s = false := by rw [decQ, decide_eq_false h2]; rfl
    have ht : decT s = ByteArray.empty := by rw [decT, hq]; rfl
    rw [hq, ht]
    have hne : ((s.size : Int) % 2 != 0) = true := by simp; omega
    clear hq ht
    go_enter Try.func11, Try.ntmps11
    go_wp2
    go_ret2
    exact ⟨rfl, gr_refl _ _⟩
  · have hq : decQ s = false := by rw [decQ, decide_eq_false hs]; simp
    have ht : decT s = ByteArray.empty := by rw [decT, hq]; rfl
    rw [hq, ht]
    clear hq ht
    have hs' : (40000 : Int) < s.size := by omega
    go_enter Try.func11, Try.ntmps11
    go_wp2
    go_ret2
    exact ⟨rfl, gr_refl _ _⟩
end Go.Proofs.Ytjnphdjblmognaa
