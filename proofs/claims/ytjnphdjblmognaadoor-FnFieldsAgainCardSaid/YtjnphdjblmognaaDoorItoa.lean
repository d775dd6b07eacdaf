/- Numbers as decimal text: the program's FormatInt by the library's contract, the model's by a walk. -/
import Derived.Test.YtjnphdjblmognaaDoorShelf
import Derived.Test.YtjnphdjblmognaaDoorText
import Derived.Lib.ItoaLen
import Derived.Lib.AppendIntMem
import Derived.Shelf.Strconv.Itoa3
namespace Go.Proofs.YtjnphdjblmognaaDoor
open Go.RowKit

/-- The library's table lies as it is laid. -/
def Tab (w : World) : Prop := Lib.TabIs Tryd.prog w "internal/strconv.uint64pow10" .u64 Lib.pow10Tab
theorem Tab.on {w w' : World} (h : Tab w) (hg : Gr w w' none) : Tab w' := by
  have hb := Lib.tabBelow_of_tabIs h
  exact hb w' (gr_below hg)
def itoaS (n : Int) : ByteArray := ⟨(Lib.itoa n).toArray⟩
theorem itoaS_data (n : Int) : (itoaS n).data.toList = Lib.itoa n := by simp [itoaS]
theorem itoaS_size (n : Int) : (itoaS n).size = (Lib.itoa n).length := by simp [itoaS, ByteArray.size]
theorem formatInt_any (n : Int) (w : World) (hn : I64 n) (ht : Tab w) :
    Calls Tryd.prog 11 #[.int .i64 n] w fun e w' => e = .returned (.string (itoaS n)) ∧ Gr w w' none := by
  unfold I64 at hn
  obtain ⟨h0, h1⟩ := hn
  go_enter Tryd.func11, Tryd.ntmps11
  go_wp2_with fail
  refine (Tryd.strconv_Itoa n h0 h1 _ ht).mono ?_
  rintro e w' ⟨rfl, hk⟩
  have hg : Gr w w' none := by
    obtain ⟨k, os, rfl⟩ := hk
    exact gr_of_below (Lib.below_grow _ _ (Nat.le_refl _) k os)
  have HG := hid hg
  clear hk hg
  go_wp2
  go_ret
  exact ⟨rfl, HG.out⟩
/-- What the loop over a number's figures has: the rest of the number, and the figures behind it. -/
def DR (u m : Nat) (l : List UInt8) : Prop := (m = 0 ∧ l = Lib.decDigits u) ∨ (1 ≤ m ∧ Lib.decDigits m ++ l = Lib.decDigits u)
theorem dr_step {u m : Nat} {l : List UInt8} (h : DR u m l) (hm : 1 ≤ m) : DR u (m / 10) (UInt8.ofNat (48 + m % 10) :: l) := by
  rcases h with ⟨h, _⟩ | ⟨_, h⟩
  · omega
  · by_cases h10 : m < 10
    · left
      refine ⟨by omega, ?_⟩
      rw [Lib.decDigits_one h10] at h
      rw [← h, show m % 10 = m by omega]; rfl
    · right
      refine ⟨by omega, ?_⟩
      rw [Lib.decDigits, dif_neg h10] at h
      rw [← h, List.append_assoc]; rfl
theorem dr_len {u m : Nat} {l : List UInt8} (h : DR u m l) : l.length ≤ (Lib.decDigits u).length := by
  rcases h with ⟨_, rfl⟩ | ⟨_, h⟩
  · exact Nat.le_refl _
  · rw [← h]; simp
theorem digits_len {u : Nat} (h : (u : Int) ≤ 9223372036854775808) : (Lib.decDigits u).length ≤ 21 := by
  by_cases h0 : u = 0
  · subst h0; rw [Lib.decDigits_one (by omega)]; simp
  · have := Lib.itoa_length_le (-(u : Int)) (by omega) (by omega)
    rw [Lib.itoa_neg u (by omega), List.length_cons] at this
    omega
theorem fig_list (m : Nat) : (strOfNums [48 + (m : Int) % 10]).data.toList = [UInt8.ofNat (48 + m % 10)] := by
  rw [strOfNums_data]
  simp only [List.map_cons, List.map_nil]
  congr 2
theorem cat_list (a b : ByteArray) : (a ++ b).data.toList = a.data.toList ++ b.data.toList := by simp
theorem digV_small {q : Int} (h : q < 10) : digV q = 48 + q := if_pos h
/-- 'string([]byte{c})'. -/
theorem lit_str (w : World) (x : Int) : (convert 22 9 (.slice (some ⟨w.heap.size, 0, none⟩) 1 1)).run Tryd.prog (w.alloc (.cells #[.int .u8 x] 5)) = .ok (.string (strOfNums [x])) (w.alloc (.cells #[.int .u8 x] 5)) := by
  have hd := World.ownsRow_lit (base := w.heap.size) (size := 1) (e := 5) w #[Value.int .u8 x] 1 (Nat.le_refl _) (by decide) rfl
  exact str_own (xs := [x]) hd rfl
theorem sFormatInt_pos (u : Nat) (w : World) (h1 : 1 ≤ u) (h2 : (u : Int) ≤ 9223372036854775807) :
    Calls Tryd.prog 13 #[.int .i64 u] w fun e w' => e = .returned (.string (itoaS u)) ∧ Gr w w' none := by
  generalize hT : itoaS u = T
  have HT := hid hT
  have h3 : (0 : Int) < (u : Int) := by omega
  have h4 : ((u : Int) == 0) = false := by simp; omega
  have hlen := digits_len (u := u) (by omega)
  clear hT
  go_enter Tryd.func13, Tryd.ntmps13
  go_wp2_with fail
  go_loopw [0, 4, 5] (fun i s _ wr => ∃ (m : Nat) (tb : ByteArray), i = .int .i64 m ∧ s = .string tb ∧ m ≤ u ∧ DR u m tb.data.toList ∧ Gr w wr none) (fun i _ _ _ => (intOf i).toNat)
  case atStart => exact ⟨u, ByteArray.empty, rfl, rfl, Nat.le_refl _, .inr ⟨h1, by simp⟩, gr_refl _ _⟩
  case round =>
    obtain ⟨m, tb, rfl, rfl, hm, hd, hg⟩ := hrel
    have HD := hid hd
    have hsz : tb.size ≤ 21 := by have := dr_len hd; have e : tb.size = tb.data.toList.length := rfl
                                  omega
    clear hd
    by_cases hm0 : m = 0
    · have e : T = tb := by
        have h5 := HD.out
        rcases h5 with ⟨_, h⟩ | ⟨h, _⟩
        · rw [← HT.out]; exact Go.WideShapes.bytes_inj (by rw [itoaS_data, h, Lib.itoa_nonneg])
        · omega
      subst e
      have h0 : ((m : Int) != 0) = false := by simp [hm0]
      clear hm0
      go_wp2
      go_ret
      exact ⟨rfl, hg⟩
    · have h0 : ((m : Int) != 0) = true := by simp [hm0]
      have h0' : (0 : Int) < (m : Int) := by omega
      have hq : digV ((m : Int) % 10) = 48 + (m : Int) % 10 := digV_small (by omega)
      have HS := hid (show DR u (m / 10) (strOfNums [48 + (m : Int) % 10] ++ tb).data.toList by
        rw [cat_list, fig_list]; exact dr_step HD.out (by omega))
      have hcv := lit_str wr (48 + (m : Int) % 10)
      have hss : (strOfNums [48 + (m : Int) % 10]).size = 1 := by simp [strOfNums_size]
      have HQ := hid hq
      clear hm0 hq
      go_wp2_with fail
      refine (l01Figure_any _ _ (by omega) (by omega)).mono ?_
      rw [HQ.out]
      rintro e w' ⟨rfl, rfl⟩
      go_wp2
      go_roundw
      case rel => exact ⟨m / 10, _, by go_num, rfl, by omega, HS.out, gr_alloc hg _⟩
      case measure => simp [intOf]; omega
theorem sFormatInt_neg (u : Nat) (w : World) (h1 : 1 ≤ u) (h2 : (u : Int) ≤ 9223372036854775808) :
    Calls Tryd.prog 13 #[.int .i64 (-(u : Int))] w fun e w' => e = .returned (.string (itoaS (-(u : Int)))) ∧ Gr w w' none := by
  generalize hT : itoaS (-(u : Int)) = T
  have HT := hid hT
  have h3 : -(u : Int) < 0 := by omega
  have h4 : (-(u : Int) == 0) = false := by simp; omega
  have hlen := digits_len (u := u) (by omega)
  clear hT
  go_enter Tryd.func13, Tryd.ntmps13
  go_wp2_with fail
  go_loopw [0, 4, 5] (fun i s _ wr => ∃ (m : Nat) (tb : ByteArray), i = .int .i64 (-(m : Int)) ∧ s = .string tb ∧ m ≤ u ∧ DR u m tb.data.toList ∧ Gr w wr none) (fun i _ _ _ => (-(intOf i)).toNat)
  case atStart => exact ⟨u, ByteArray.empty, rfl, rfl, Nat.le_refl _, .inr ⟨h1, by simp⟩, gr_refl _ _⟩
  case round =>
    obtain ⟨m, tb, rfl, rfl, hm, hd, hg⟩ := hrel
    have HD := hid hd
    have hsz : tb.size ≤ 21 := by have := dr_len hd; have e : tb.size = tb.data.toList.length := rfl
                                  omega
    clear hd
    by_cases hm0 : m = 0
    · have HE : Hid ((⟨#[45]⟩ : ByteArray) ++ tb = T) := by
        have h5 := HD.out
        show _ = _
        rcases h5 with ⟨_, h⟩ | ⟨h, _⟩
        · rw [← HT.out]; exact Go.WideShapes.bytes_inj (by rw [itoaS_data, cat_list, h, Lib.itoa_neg u (by omega)]; rfl)
        · omega
      have h0 : (-(m : Int) != 0) = false := by simp [hm0]
      have hsz2 : (⟨#[45]⟩ : ByteArray).size = 1 := rfl
      clear hm0
      go_wp2
      go_ret
      exact ⟨by rw [← HE.out]; rfl, hg⟩
    · have h0 : (-(m : Int) != 0) = true := by simp; omega
      have h0' : (0 : Int) < (m : Int) := by omega
      by_cases hz : (m : Int) % 10 = 0
      · have hz' : ¬ (0 : Int) < (m : Int) % 10 := by omega
        have HS := hid (show DR u (m / 10) (strOfNums [48] ++ tb).data.toList by
          rw [cat_list]; have := fig_list m; rw [hz, Int.add_zero] at this; rw [this]; exact dr_step HD.out (by omega))
        have hcv := lit_str wr 48
        have hss : (strOfNums [48]).size = 1 := by simp [strOfNums_size]
        have HQ : Hid (digV 0 = 48) := rfl
        clear hm0
        go_wp2_with fail
        refine (l01Figure_any _ _ (by omega) (by omega)).mono ?_
        rw [HQ.out]
        rintro e w' ⟨rfl, rfl⟩
        go_wp2
        go_roundw
        case rel => exact ⟨m / 10, _, by go_num, rfl, by omega, HS.out, gr_alloc hg _⟩
        case measure => simp [intOf]; omega
      · have hz' : (0 : Int) < (m : Int) % 10 := by omega
        clear hz
        have HS := hid (show DR u (m / 10) (strOfNums [48 + (m : Int) % 10] ++ tb).data.toList by
          rw [cat_list]; have := fig_list m; rw [this]; exact dr_step HD.out (by omega))
        have hcv := lit_str wr (48 + (m : Int) % 10)
        have hss : (strOfNums [48 + (m : Int) % 10]).size = 1 := by simp [strOfNums_size]
        have HQ := hid (digV_small (q := (m : Int) % 10) (by omega))
        clear hm0
        go_wp2_with fail
        refine (l01Figure_any _ _ (by omega) (by omega)).mono ?_
        rw [HQ.out]
        rintro e w' ⟨rfl, rfl⟩
        go_wp2
        go_roundw
        case rel => exact ⟨m / 10, _, by go_num, rfl, by omega, HS.out, gr_alloc hg _⟩
        case measure => simp [intOf]; omega
theorem sFormatInt_any (n : Int) (w : World) (hn : I64 n) :
    Calls Tryd.prog 13 #[.int .i64 n] w fun e w' => e = .returned (.string (itoaS n)) ∧ Gr w w' none := by
  unfold I64 at hn
  by_cases h0 : n = 0
  · subst h0
    have e : itoaS 0 = ⟨#[48]⟩ := Go.WideShapes.bytes_inj (by rw [itoaS_data]; show Lib.itoa ((0 : Nat) : Int) = _; rw [Lib.itoa_nonneg, Lib.decDigits_one (by omega)]; rfl)
    rw [e]
    clear e
    go_enter Tryd.func13, Tryd.ntmps13
    go_wp2
    go_ret
    exact ⟨rfl, gr_refl _ _⟩
  · by_cases h1 : 0 < n
    · obtain ⟨u, rfl⟩ := Int.eq_ofNat_of_zero_le (show 0 ≤ n by omega)
      exact sFormatInt_pos u w (by omega) (by omega)
    · obtain ⟨u, rfl⟩ : ∃ u : Nat, n = -(u : Int) := ⟨n.natAbs, by omega⟩
      exact sFormatInt_neg u w (by omega) (by omega)
theorem walk_FnExactFormatInt (n : Int) (w : World) (hn : I64 n) (ht : Tab w) :
    Calls Tryd.prog 4 #[.int .i64 n] w fun e w' => e = .returned (.bool true) ∧ Gr w w' none := by
  go_enter Tryd.func4, Tryd.ntmps4
  go_wp2_with fail
  refine (sFormatInt_any _ _ hn).mono ?_
  rintro e w1 ⟨rfl, g1⟩
  have T1 := hid (ht.on g1)
  have HG1 := hid g1
  clear g1 ht
  go_wp2_with fail
  refine (formatInt_any _ _ hn T1.out).mono ?_
  rintro e w2 ⟨rfl, g2⟩
  have HG2 := hid (gr_then HG1.out g2)
  clear g2
  go_wp2
  go_ret
  exact ⟨rfl, HG2.out⟩
end Go.Proofs.YtjnphdjblmognaaDoor
