/- Drawn texts. -/
import Derived.Test.YtjnphdjblmognaaDoorDraw
import Derived.Test.YtjnphdjblmognaaDoorText
import Derived.Test.YtjnphdjblmognaaDoorDec
namespace Go.Proofs.YtjnphdjblmognaaDoor
open Go.RowKit

theorem u8_in {x : Int} (h : 0 ≤ x ∧ x ≤ 255) : IntKind.u8.wrap x = x := by simp [IntKind.wrap, IntKind.bits, IntKind.signed]; omega
def RetStr (T : TypeId) (w : World) (C : Nat) (m : Nat) (e : Ending) (w' : World) : Prop := ∃ tb : ByteArray, e = .returned (.string tb) ∧ tb.size = m ∧ Cur T w' C ∧ Gr w w' (some C)
theorem l01Text_any {C : Nat} (m : Nat) (w : World) (h : Cur 47 w C) (hm : m ≤ 5000) : Calls Tryd.prog 25 #[.pointer (some ⟨C, 0, none⟩), .int .i64 m] w (RetStr 47 w C m) := by
  have hC := h.lt
  have hm' : (m : Int) ≤ 5000 := by omega
  obtain ⟨i0, hi, hz0, hz1, hz2⟩ := info_parts info_u8
  have HC0 := hid (h.on (gr_alloc (gr_refl _ _) (.cells #[] 5)))
  have HO0 := hid (World.ownsRow_made (base := w.heap.size) (e := 5) (size := 1) w #[] 0 (Nat.le_refl _) (by unfold maxLen; omega) rfl)
  clear h
  go_enter Tryd.func25, Tryd.ntmps25
  go_wp2_with fail
  go_loopw [5, 6] (fun u i wr => ∃ k : Nat, ∃ xs : List Int, k ≤ m ∧ i = .int .i64 k ∧ xs.length = k ∧ wr.ownsRow w.heap.size 5 1 u k (xs.map (Value.int .u8)) ∧ Cur 47 wr C ∧ Gr w wr (some C)) (fun _ i _ => m - (intOf i).toNat)
  case atStart => exact ⟨0, [], by omega, rfl, rfl, HO0.out, HC0.out, gr_mono (gr_alloc (gr_refl _ _) _)⟩
  case round =>
    obtain ⟨k, xs, hk, rfl, hlen, hown, hc, hg⟩ := hrel
    have HL := hid hlen
    clear hlen HO0 HC0
    by_cases hlt : k < m
    · have hsz := gr_le hg
      go_wp2_with fail
      refine (l01Byte_any _ hc).mono ?_
      rintro e w3 ⟨x, x0, x1, rfl, hc3, g3⟩
      have hown3 := hown.kept g3 (by cases hu : u5.ownBlock <;> simp; intro e; have := hown.lt _ hu; omega)
      have g13 := gr_same hg g3
      have hsz3 := gr_le g13
      have hsz' : w.heap.size ≤ w3.heap.size + 1 := by omega
      have hmod := u8_in ⟨x0, x1⟩
      clear hc hown g3 hg hsz
      go_wp2_with (at_builtin; refine wpList_append_own _ rfl _ _ 22 rfl w.heap.size 5 i0 (.int .u8 0) 1 1 Tryd.underlying22 hi hz0 hz1 hz2 rfl (by decide) _ _ _ rfl (hown3.alloc _) ⟨w3.heap.size, 0, none⟩ 1 1 [.int .u8 x] rfl rfl (new_one _ _ _) (one_u8 _) (by unfold maxLen; omega) (by omega) (by simpa using hsz') ?_)
      intro v' w4 hown' hgrow _
      have hc4 := (hc3.on (gr_alloc (gr_refl _ _) (.cells #[Value.int .u8 x] 5))).kept hgrow (fun j e => by have := hown3.lt j e; omega)
      have hg4 := gr_trans (gr_alloc g13 (.cells #[Value.int .u8 x] 5)) hgrow (fun j e => .inr (hown3.lt j e).1)
      have HO := hid hown'
      clear hown' hgrow hown3 hc3 hsz' hsz3 g13
      go_wp2
      go_roundw
      case rel => exact ⟨k + 1, xs ++ [x], by omega, by go_num, by simp [HL.out], by rw [List.map_append]; exact HO.out, hc4, hg4⟩
      case measure => simp [intOf]; omega
    · have hkl : k = m := by omega
      have HK := hid hkl
      have hcv := str_own hown HL.out
      clear hkl
      go_wp2
      go_ret
      exact ⟨_, rfl, by rw [strOfNums_size, HL.out, HK.out], hc, hg⟩
/-- n bytes, the first k of them x. -/
def fillTo (x : Int) (n k : Nat) : List Int := (List.range n).map fun i => if i < k then x else 0
theorem fillTo_length (x : Int) (n k : Nat) : (fillTo x n k).length = n := by simp [fillTo]
theorem fillTo_zero (x : Int) (n : Nat) : (fillTo x n 0).map (Value.int .u8) = List.replicate n (Value.int .u8 0) := by
  apply List.ext_getElem <;> simp [fillTo]
theorem fillTo_set (x : Int) (n k : Nat) : ((fillTo x n k).map (Value.int .u8)).set k (Value.int .u8 x) = (fillTo x n (k + 1)).map (Value.int .u8) := by
  apply List.ext_getElem
  · simp [fillTo]
  · intro i h1 h2
    simp [fillTo] at h1
    rw [List.getElem_set]
    by_cases e : k = i
    · subst e; simp [fillTo]
    · simp only [e, if_false, fillTo, List.getElem_map, List.getElem_range]
      by_cases hik : i < k
      · rw [if_pos hik, if_pos (by omega)]
      · rw [if_neg hik, if_neg (by omega)]
theorem fillTo_get (x : Int) (n k j : Nat) (h : j < n) : ∃ c, ((fillTo x n k).map (Value.int .u8))[j]? = some c :=
  ⟨_, List.getElem?_eq_getElem (by simpa [fillTo] using h)⟩
theorem l01Long_any (x : Int) (n : Nat) (w : World) (hn : n ≤ 100000) : Calls Tryd.prog 23 #[.int .i64 n, .int .u8 x] w fun e w' => e = .returned (.string (strOfNums (fillTo x n n))) ∧ Gr w w' none := by
  have hn' : (n : Int) ≤ 100000 := by omega
  obtain ⟨i0, hi, hz0, hz1, hz2⟩ := info_parts info_u8
  go_enter Tryd.func23, Tryd.ntmps23
  go_wp2_with (at_make; refine wpList_make_full _ rfl _ _ 22 rfl w.heap.size 5 i0 (.int .u8 0) 1 Tryd.underlying22 hi hz0 hz1 .i64 .i64 n n n rfl rfl rfl rfl ?c1 ?c2 ?c3 ?_)
  case c1 => rw [hz2]; omega
  case c2 => unfold maxLen; omega
  case c3 => exact Nat.le_refl _
  intro w1 hown hg1
  have HO : Hid (w1.ownsRow w.heap.size 5 1 (.slice (some ⟨w.heap.size, 0, none⟩) n n) n ((fillTo x n 0).map (Value.int .u8))) := by
    show World.ownsRow _ _ _ _ _ _ _
    rw [fillTo_zero, ← toList_madeCells_one]; simpa using hown
  have HG : Hid (Gr w w1 none) := hg1
  clear hown hg1 hi hz0 hz1 hz2
  go_wp2
  go_loopw [6] (fun i wr => ∃ k : Nat, k ≤ n ∧ i = .int .i64 k ∧ wr.ownsRow w.heap.size 5 1 (.slice (some ⟨w.heap.size, 0, none⟩) n n) n ((fillTo x n k).map (Value.int .u8)) ∧ Gr w wr none) (fun i _ => n - (intOf i).toNat)
  case atStart => exact ⟨0, Nat.zero_le _, rfl, HO.out, HG.out⟩
  case round =>
    obtain ⟨k, hk, rfl, hown, hg⟩ := hrel
    clear HO HG
    by_cases hlt : k < n
    · obtain ⟨c0, hc0⟩ := fillTo_get x n k k hlt
      have hdst := (hown.cellAt k (by omega)).trans hc0
      have hfr := hown.frozenAt k
      have hst := hown.stored k (.int .u8 x)
      rw [fillTo_set] at hst
      have hgs := gr_set hg (p := ⟨w.heap.size, k, none⟩) (.inr (Nat.le_refl _)) (.int .u8 x)
      have HS := hid hst.1
      clear hst hc0 hown
      go_wp2
      go_roundw
      case rel => exact ⟨k + 1, by omega, by go_num, HS.out, hgs⟩
      case measure => simp [intOf]; omega
    · have hkl : k = n := by omega
      subst hkl
      have hcv := str_own hown (fillTo_length _ _ _)
      go_wp2
      go_ret
      exact ⟨rfl, hg⟩
def RetStr0 (w : World) (m : Nat) (e : Ending) (w' : World) : Prop := ∃ tb : ByteArray, e = .returned (.string tb) ∧ tb.size ≤ m ∧ Gr w w' none
theorem drawEncodeHex_any {v : Value} {n : Nat} (w : World) (h : BytesN w v n) (hn : n ≤ 1048576) : Calls Tryd.prog 9 #[v] w (RetStr0 w 20001) := by
  go_enter Tryd.func9, Tryd.ntmps9
  go_wp2_with fail
  refine (l01New_any _ h hn).mono ?_
  rintro e w1 ⟨C, hC, rfl, hc, g1⟩
  go_wp2_with fail
  refine (l01Once_any _ _ hc (by omega) (by omega)).mono ?_
  rintro e w2 ⟨q, rfl, hc2, g2⟩
  cases q
  · go_wp2_with fail
    refine (l01Below_any _ _ hc2 (by omega) (by omega)).mono ?_
    rintro e w3 ⟨x, x0, x1, rfl, hc3, g3⟩
    obtain ⟨m, rfl⟩ := Int.eq_ofNat_of_zero_le x0
    go_wp2_with fail
    refine (l01Text_any m _ hc3 (by omega)).mono ?_
    rintro e w4 ⟨tb, rfl, hz, hc4, g4⟩
    have HZ := hid hz
    have HG := hid (gr_trans g1 (gr_same g2 (gr_same g3 g4)) (fun j e => by cases e; exact .inr hC))
    clear hz g1 g2 g3 g4 hc hc2 hc3 hc4 h
    go_wp2
    go_ret
    exact ⟨_, rfl, by rw [HZ.out]; omega, HG.out⟩
  · go_wp2_with fail
    refine (l01Below_any _ _ hc2 (by omega) (by omega)).mono ?_
    rintro e w3 ⟨x, x0, x1, rfl, hc3, g3⟩
    obtain ⟨m, rfl⟩ := Int.eq_ofNat_of_zero_le x0
    go_wp2_with fail
    rw [show (20000 : Int) + (m : Int) = ((20000 + m : Nat) : Int) from by omega]
    refine (l01Long_any 200 (20000 + m) _ (by omega)).mono ?_
    rintro e w4 ⟨rfl, g4⟩
    have HG := hid (gr_trans g1 (gr_same g2 (gr_same g3 (gr_mono g4))) (fun j e => by cases e; exact .inr hC))
    clear g1 g2 g3 g4 hc hc2 hc3 h
    go_wp2
    go_ret
    exact ⟨_, rfl, by rw [strOfNums_size, fillTo_length]; omega, HG.out⟩
end Go.Proofs.YtjnphdjblmognaaDoor
