/- The law over hexadecimal text and back, walked. -/
import Derived.Test.YtjnphdjblmognaaDoorDrawTxt
import Derived.Test.YtjnphdjblmognaaDoorDecI
import Derived.Test.YtjnphdjblmognaaDoorItoa
namespace Go.Proofs.YtjnphdjblmognaaDoor
open Go.RowKit

theorem bt_nums {xs : List Int} {i : Nat} (h : i < xs.length) (hb : 0 ≤ xs[i] ∧ xs[i] ≤ 255) : bt (strOfNums xs) i = xs[i] := by
  unfold bt
  rw [← Array.getElem?_toList, strOfNums_data, List.getElem?_map, List.getElem?_eq_getElem h]
  simp only [Option.map_some, Option.getD_some]
  rw [UInt8.toNat_ofNat']
  omega
theorem encTo_get (s : ByteArray) : ∀ k i, i < k → ∃ (h1 : 2 * i < (encTo s k).length) (h2 : 2 * i + 1 < (encTo s k).length), (encTo s k)[2 * i] = digV (bt s i / 16) ∧ (encTo s k)[2 * i + 1] = digV (bt s i % 16)
  | k + 1, i, h => by
    have hl := encTo_length s (k + 1)
    have hl' := encTo_length s k
    refine ⟨by omega, by omega, ?_⟩
    by_cases e : i = k
    · subst e
      simp only [encTo]
      constructor
      · rw [List.getElem_append_right (by omega)]; simp [hl']
      · rw [List.getElem_append_right (by omega)]; simp [hl']
    · obtain ⟨h1, h2, h3, h4⟩ := encTo_get s k i (by omega)
      simp only [encTo]
      constructor
      · rw [List.getElem_append_left h1]; exact h3
      · rw [List.getElem_append_left h2]; exact h4
theorem hexN_dig16 {q : Int} (h0 : 0 ≤ q) (h1 : q < 16) : hexN (digV q) = q := by
  unfold digV
  split
  · rw [hexN_dig (by omega) (by omega)]; omega
  · rw [hexN_let (by omega) (by omega)]; omega
theorem hx_enc (s : ByteArray) {i : Nat} (h : i < s.size) : hx (strOfNums (encTo s s.size)) (2 * i) = bt s i / 16 ∧ hx (strOfNums (encTo s s.size)) (2 * i + 1) = bt s i % 16 := by
  obtain ⟨h1, h2, h3, h4⟩ := encTo_get s s.size i h
  have hb := bt_bd s i
  have d1 := digV_bd (q := bt s i / 16) (by omega) (by omega)
  have d2 := digV_bd (q := bt s i % 16) (by omega) (by omega)
  unfold hx
  rw [bt_nums h1 (by rw [h3]; omega), bt_nums h2 (by rw [h4]; omega), h3, h4, hexN_dig16 (by omega) (by omega), hexN_dig16 (by omega) (by omega)]
  exact ⟨rfl, rfl⟩
theorem enc_ok (s : ByteArray) : ∀ n, n ≤ 2 * s.size → decOkTo (strOfNums (encTo s s.size)) n = true
  | 0, _ => rfl
  | n + 1, h => by
    have ih := enc_ok s n (by omega)
    refine decOkTo_succ ih ?_
    have hb := bt_bd s (n / 2)
    obtain ⟨h1, h2⟩ := hx_enc s (i := n / 2) (by omega)
    rcases Nat.mod_two_eq_zero_or_one n with e | e
    · rw [show n = 2 * (n / 2) by omega, h1]; omega
    · rw [show n = 2 * (n / 2) + 1 by omega, h2]; omega
theorem dec_enc (s : ByteArray) : ∀ k, k ≤ s.size → decTo (strOfNums (encTo s s.size)) k = (List.range k).map (bt s)
  | 0, _ => rfl
  | k + 1, h => by
    rw [decTo, dec_enc s k (by omega), List.range_succ, List.map_append]
    obtain ⟨h1, h2⟩ := hx_enc s (i := k) (by omega)
    rw [h1, h2]
    congr 1
    simp only [List.map_cons, List.map_nil, List.cons.injEq, and_true]
    omega
theorem nums_back (s : ByteArray) : strOfNums ((List.range s.size).map (bt s)) = s := by
  apply Go.WideShapes.bytes_inj
  rw [strOfNums_data]
  have hz : s.data.toList.length = s.size := rfl
  apply List.ext_getElem
  · simp [hz]
  · intro i h1 h2
    simp at h1
    simp only [List.getElem_map, List.getElem_range]
    unfold bt
    have : s.data[i]? = some s.data.toList[i] := by rw [← Array.getElem?_toList, List.getElem?_eq_getElem h2]
    rw [this]
    simp
theorem hex_back {s : ByteArray} (h : s.size ≤ 20000) : (encT s).size = 2 * s.size ∧ decQ (encT s) = true ∧ decT (encT s) = s := by
  have e : encT s = strOfNums (encTo s s.size) := by rw [encT, if_pos h]
  have hz : (encT s).size = 2 * s.size := by rw [e, strOfNums_size, encTo_length]
  have hq : decQ (encT s) = true := by
    rw [decQ, hz, e, enc_ok s _ (Nat.le_refl _)]
    simp; omega
  refine ⟨hz, hq, ?_⟩
  rw [decT, if_pos hq, hz, Nat.mul_div_cancel_left _ (by omega), e, dec_enc s _ (Nat.le_refl _), nums_back]
theorem itoaS_10 : itoaS 10 = ⟨#[49, 48]⟩ := Go.WideShapes.bytes_inj (by
  rw [itoaS_data]
  show Lib.itoa ((10 : Nat) : Int) = _
  rw [Lib.itoa_nonneg, Lib.decDigits_two (by omega) (by omega)]; rfl)
theorem walk_FnHexText (v : Value) (n : Nat) (w : World) (h : BytesN w v n) (ht : Tab w) :
    Calls Tryd.prog 3 #[v] w fun e w' => e = .returned (.bool true) ∧ Gr w w' none := by
  by_cases hn : n ≤ 1048576
  case neg =>
    have hb : decide (1048576 < (n : Int)) = true := by simp; omega
    go_enter Tryd.func3, Tryd.ntmps3
    go_wp2_with fail
    refine (big_any _ h).mono ?_
    rw [hb]
    rintro e w' ⟨rfl, rfl⟩
    go_wp2
    go_ret
    exact ⟨rfl, gr_refl _ _⟩
  case pos =>
  have hb : decide (1048576 < (n : Int)) = false := by simp; omega
  have HB := hid h
  have HT := hid ht
  clear ht
  go_enter Tryd.func3, Tryd.ntmps3
  go_wp2_with fail
  refine (big_any _ h).mono ?_
  rw [hb]
  rintro e w' ⟨rfl, rfl⟩
  clear h hb
  go_wp2_with fail
  refine (drawEncodeHex_any _ HB.out hn).mono ?_
  rintro e w1 ⟨s, rfl, hs, g1⟩
  have T1 := hid (HT.out.on g1)
  have G1 := hid g1
  clear g1
  by_cases hz : s.size ≤ 20000
  · have HH := hid (hex_back hz)
    have hz' : (s.size : Int) ≤ 20000 := by omega
    have hq : encQ s = true := by simp [encQ, hz]
    have hh : (encT s).size = 2 * s.size := HH.out.1
    go_wp2_with fail
    refine (encodeHex_any _ _).mono ?_
    rw [hq]
    rintro e w2 ⟨rfl, g2⟩
    have G2 := hid (gr_then G1.out g2)
    clear g2
    generalize hE : encT s = E at *
    clear hE hq
    go_wp2_with fail
    refine (decodeHex_any _ _ (by omega)).mono ?_
    rw [HH.out.2.1, HH.out.2.2]
    rintro e w3 ⟨rfl, g3⟩
    have G3 := hid (gr_then G2.out g3)
    clear g3
    go_wp2
    go_ret
    exact ⟨rfl, G3.out⟩
  · have hz' : (20000 : Int) < s.size := by omega
    have hq : encQ s = false := by simp [encQ, hz]
    have hE : encT s = ByteArray.empty := by rw [encT, if_neg hz]
    go_wp2_with fail
    refine (encodeHex_any _ _).mono ?_
    rw [hq, hE]
    rintro e w2 ⟨rfl, g2⟩
    have T2 := hid (T1.out.on g2)
    have G2 := hid (gr_then G1.out g2)
    have hem : (ByteArray.empty.toList == (⟨#[]⟩ : ByteArray).toList) = true := by rw [ByteArray.toList_eq, ByteArray.toList_eq]; rfl
    have hem' : ByteArray.empty.toList.isEmpty = true := by rw [ByteArray.toList_eq]; rfl
    clear g2 hz hq hE
    go_wp2_with fail
    refine (formatInt_any 10 _ (by unfold I64; omega) T2.out).mono ?_
    rw [itoaS_10]
    rintro e w3 ⟨rfl, g3⟩
    have G3 := hid (gr_then G2.out g3)
    clear g3
    go_wp2
    go_ret
    exact ⟨rfl, G3.out⟩
end Go.Proofs.YtjnphdjblmognaaDoor
