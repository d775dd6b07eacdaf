/- A line's fields: the program's walk and the model's. -/
import Derived.Test.YtjnphdjblmognaaDoorText
import Derived.Test.YtjnphdjblmognaaDoorDec
namespace Go.Proofs.YtjnphdjblmognaaDoor
open Go.RowKit

/-- Position i ends a field: the end of the line, or a space. -/
def spB (s : ByteArray) (i : Nat) : Bool := decide (s.size ≤ i) || decide (bt s i = 32)
/-- Where the field begins that may run at position k. -/
def begT (s : ByteArray) : Nat → Nat
  | 0 => 0
  | k + 1 => if spB s k then k + 1 else begT s k
theorem begT_le (s : ByteArray) : ∀ k, begT s k ≤ k
  | 0 => Nat.le_refl _
  | k + 1 => by
    have := begT_le s k
    simp only [begT]
    split <;> omega
/-- The fields that end before position k. -/
def fldT (s : ByteArray) : Nat → List ByteArray
  | 0 => []
  | k + 1 => if spB s k = true ∧ begT s k < k then fldT s k ++ [s.extract (begT s k) k] else fldT s k
theorem fldT_len (s : ByteArray) : ∀ k, (fldT s k).length ≤ k
  | 0 => Nat.le_refl _
  | k + 1 => by
    have := fldT_len s k
    simp only [fldT]
    split
    · simp; omega
    · omega
theorem begT_sp {s : ByteArray} {k : Nat} (h : spB s k = true) : begT s (k + 1) = k + 1 := by simp [begT, h]
theorem begT_no {s : ByteArray} {k : Nat} (h : spB s k = false) : begT s (k + 1) = begT s k := by simp [begT, h]
theorem fldT_add {s : ByteArray} {k : Nat} (h : spB s k = true) (h' : begT s k < k) : fldT s (k + 1) = fldT s k ++ [s.extract (begT s k) k] := by simp [fldT, h, h']
theorem fldT_sp {s : ByteArray} {k : Nat} (h' : ¬ begT s k < k) : fldT s (k + 1) = fldT s k := by simp [fldT, h']
theorem fldT_no {s : ByteArray} {k : Nat} (h : spB s k = false) : fldT s (k + 1) = fldT s k := by simp [fldT, h]
theorem spB_end {s : ByteArray} {k : Nat} (h : s.size ≤ k) : spB s k = true := by simp [spB, h]
theorem spB_yes {s : ByteArray} {k : Nat} (h : bt s k = 32) : spB s k = true := by simp [spB, h]
theorem spB_no {s : ByteArray} {k : Nat} (h : k < s.size) (h' : bt s k ≠ 32) : spB s k = false := by
  simp [spB, h', h]
def okC (s : ByteArray) (i : Nat) : Bool := decide (32 ≤ bt s i) && decide (bt s i ≤ 126)
def txtTo (s : ByteArray) : Nat → Bool
  | 0 => true
  | k + 1 => txtTo s k && okC s k
theorem txtTo_bad {s : ByteArray} {i : Nat} (h : okC s i = false) : ∀ n, i < n → txtTo s n = false := by
  intro n
  induction n with
  | zero => intro h'; omega
  | succ n ih =>
    intro h'
    by_cases e : i = n
    · subst e; simp [txtTo, h]
    · simp [txtTo, ih (by omega)]
theorem txtTo_succ {s : ByteArray} {n : Nat} (h : txtTo s n = true) (h' : okC s n = true) : txtTo s (n + 1) = true := by simp [txtTo, h, h']
def splB (s : ByteArray) : Bool := decide (s.size ≤ 600) && txtTo s s.size && decide ((fldT s (s.size + 1)).length ≤ 24)
def splV (s : ByteArray) : List ByteArray := if splB s then fldT s (s.size + 1) else []
theorem spl_no {s : ByteArray} (h : splB s = false) : splV s = [] := by rw [splV, h]; rfl
theorem spl_yes {s : ByteArray} (h : splB s = true) : splV s = fldT s (s.size + 1) := by rw [splV, h]; rfl
set_option maxHeartbeats 1000000 in
theorem splitFields_any (s : ByteArray) (w : World) :
    Calls Tryd.prog 18 #[.string s] w (RetSB 9 w (splV s) (splB s)) := by
  by_cases hs : s.size ≤ 600
  case neg =>
    have hb : splB s = false := by simp [splB, hs]
    rw [spl_no hb, hb]
    have hs' : (600 : Int) < s.size := by omega
    clear hb
    go_enter Tryd.func18, Tryd.ntmps18
    go_wp2
    go_ret2
    exact ⟨_, rfl, World.ownsRow_nil _ _ _ _, gr_refl _ _⟩
  case pos =>
  have hs' : (s.size : Int) ≤ 600 := by omega
  obtain ⟨i0, hi, hz0, hz1, hz2⟩ := info_parts info_str
  generalize hV : splV s = V
  generalize hQ : splB s = Q
  have HV := hid hV
  have HQ := hid hQ
  clear hV hQ
  go_enter Tryd.func18, Tryd.ntmps18
  go_wp2_with fail
  go_loop [4] (fun i => ∃ k : Nat, k ≤ s.size ∧ i = .int .i64 k ∧ txtTo s k = true) (fun i => s.size - (intOf i).toNat)
  case atStart => exact ⟨0, by omega, rfl, rfl⟩
  case round =>
    obtain ⟨k, hk, rfl, ht⟩ := hrel
    have HT := hid ht
    clear ht
    by_cases hlt : k < s.size
    · have hlt' : (k : Int) < s.size := by omega
      have hbt := bt_eq hlt
      cases hc : okC s k
      · have hb : splB s = false := by simp [splB, txtTo_bad hc s.size hlt]
        have EV : Hid (V = []) := by show _ = _; rw [← HV.out]; exact spl_no hb
        have EQ : Hid (Q = false) := by show _ = _; rw [← HQ.out]; exact hb
        have hc' : ¬ (32 ≤ bt s k ∧ bt s k ≤ 126) := by intro h; simp [okC, h.1, h.2] at hc
        clear hc hb
        by_cases h1 : bt s k < 32
        · clear hc'
          go_wp2
          go_ret2
          exact ⟨_, by rw [EQ.out]; rfl, by rw [EV.out]; exact World.ownsRow_nil _ _ _ _, gr_refl _ _⟩
        · have h2 : 126 < bt s k := by omega
          have h1' : 32 ≤ bt s k := by omega
          clear hc' h1
          go_wp2
          go_ret2
          exact ⟨_, by rw [EQ.out]; rfl, by rw [EV.out]; exact World.ownsRow_nil _ _ _ _, gr_refl _ _⟩
      · have h12 : 32 ≤ bt s k ∧ bt s k ≤ 126 := by simpa [okC] using hc
        obtain ⟨h1, h2⟩ := h12
        have HC := hid hc
        clear hc
        go_wp2
        go_round
        case rel => exact ⟨k + 1, by omega, by go_num, txtTo_succ HT.out HC.out⟩
        case measure => simp [intOf]; omega
    · have hkl : k = s.size := by omega
      subst hkl
      go_wp2_with fail
      go_loopw [5, 6, 7, 8] (fun u b i _ wr => ∃ k : Nat, k ≤ s.size + 1 ∧ i = .int .i64 k ∧ b = .int .i64 (if begT s k < k then (begT s k : Int) else -1) ∧ wr.ownsRow w.heap.size 9 1 u (fldT s k).length ((fldT s k).map Value.string) ∧ Gr w wr none) (fun _ _ i _ _ => s.size + 1 - (intOf i).toNat)
      case atStart => exact ⟨0, by omega, rfl, rfl, World.ownsRow_nil _ _ _ _, gr_refl _ _⟩
      case round =>
        obtain ⟨k, hk2, rfl, rfl, hown, hg⟩ := hrel
        have hfl := fldT_len s k
        have hbl := begT_le s k
        by_cases hlt2 : k ≤ s.size
        · have HO := hid hown
          clear hown
          by_cases hb : begT s k < k
          · rw [if_pos hb]
            by_cases hsp : spB s k = true
            · have EB := hid (begT_sp hsp)
              have EF := hid (fldT_add hsp hb)
              have hsp' : k = s.size ∨ (k < s.size ∧ bt s k = 32) := by
                simp only [spB, Bool.or_eq_true, decide_eq_true_eq] at hsp
                omega
              generalize hB : begT s k = B at *
              generalize hF : fldT s k = F at *
              have hb1 : (B : Int) ≤ (k : Int) := by omega
              have hb2 : (k : Int) ≤ (s.size : Int) := by omega
              have hb3 : (0 : Int) ≤ (B : Int) := by omega
              have hz : w.heap.size ≤ wr.heap.size + 1 := by have := gr_le hg; omega
              clear hsp hB hF
              rcases hsp' with hks | ⟨hks, h32⟩
              · have hq : ((k : Int) == (s.size : Int)) = true := by simp [hks]
                have HK := hid hks
                clear hks
                go_wp2_with (at_builtin; refine wpList_append_own _ rfl _ _ 33 rfl w.heap.size 9 i0 (.string ByteArray.empty) 1 16 Tryd.underlying33 hi hz0 hz1 hz2 rfl (by decide) _ _ _ rfl (HO.out.alloc _) ⟨wr.heap.size, 0, none⟩ 1 1 [.string (s.extract B k)] rfl rfl (new_one _ _ _) (one_str _) (by unfold maxLen; omega) (by omega) (by simpa using hz) ?_)
                intro v' w3 hown' hgrow _
                have hg3 := gr_append hg HO.out (Nat.le_refl _) hgrow
                have HO3 := hid hown'
                clear hown' hgrow
                go_wp2
                go_roundw
                case rel => exact ⟨k + 1, by omega, by go_num, by rw [EB.out, if_neg (by omega)], by rw [EF.out, List.map_append, List.length_append]; exact HO3.out, hg3⟩
                case measure => simp [intOf]; omega
              · have hq : ((k : Int) == (s.size : Int)) = false := by simp; omega
                have hbt := bt_eq hks
                have hks' : (k : Int) < s.size := by omega
                rw [h32] at hbt
                clear h32
                go_wp2_with (at_builtin; refine wpList_append_own _ rfl _ _ 33 rfl w.heap.size 9 i0 (.string ByteArray.empty) 1 16 Tryd.underlying33 hi hz0 hz1 hz2 rfl (by decide) _ _ _ rfl (HO.out.alloc _) ⟨wr.heap.size, 0, none⟩ 1 1 [.string (s.extract B k)] rfl rfl (new_one _ _ _) (one_str _) (by unfold maxLen; omega) (by omega) (by simpa using hz) ?_)
                intro v' w3 hown' hgrow _
                have hg3 := gr_append hg HO.out (Nat.le_refl _) hgrow
                have HO3 := hid hown'
                clear hown' hgrow
                go_wp2
                go_roundw
                case rel => exact ⟨k + 1, by omega, by go_num, by rw [EB.out, if_neg (by omega)], by rw [EF.out, List.map_append, List.length_append]; exact HO3.out, hg3⟩
                case measure => simp [intOf]; omega
            · have hsp0 : spB s k = false := by simpa using hsp
              have EB := hid (begT_no hsp0)
              have EF := hid (fldT_no hsp0)
              have hks : k < s.size := by
                rcases Nat.lt_or_ge k s.size with h | h
                · exact h
                · exact absurd (spB_end h) hsp
              have h32 : bt s k ≠ 32 := fun h => hsp (spB_yes h)
              generalize hB : begT s k = B at *
              generalize hF : fldT s k = F at *
              have hq : ((k : Int) == (s.size : Int)) = false := by simp; omega
              have hbt := bt_eq hks
              have hks' : (k : Int) < s.size := by omega
              have h32' : (bt s k == 32) = false := by simpa using h32
              have hb3 : (0 : Int) ≤ (B : Int) := by omega
              clear hsp hsp0 h32 hB hF
              go_wp2
              go_roundw
              case rel => exact ⟨k + 1, by omega, by go_num, by rw [EB.out, if_pos (by omega)], by rw [EF.out]; exact HO.out, hg⟩
              case measure => simp [intOf]; omega
          · rw [if_neg hb]
            have hbe : begT s k = k := by omega
            by_cases hsp : spB s k = true
            · have EB := hid (begT_sp hsp)
              have EF := hid (fldT_sp hb)
              have hsp' : k = s.size ∨ (k < s.size ∧ bt s k = 32) := by
                simp only [spB, Bool.or_eq_true, decide_eq_true_eq] at hsp
                omega
              clear hsp hb hbe
              rcases hsp' with hks | ⟨hks, h32⟩
              · have hq : ((k : Int) == (s.size : Int)) = true := by simp [hks]
                clear hks
                go_wp2
                go_roundw
                case rel => exact ⟨k + 1, by omega, by go_num, by rw [EB.out, if_neg (by omega)], by rw [EF.out]; exact HO.out, hg⟩
                case measure => simp [intOf]; omega
              · have hq : ((k : Int) == (s.size : Int)) = false := by simp; omega
                have hbt := bt_eq hks
                have hks' : (k : Int) < s.size := by omega
                rw [h32] at hbt
                clear h32
                go_wp2
                go_roundw
                case rel => exact ⟨k + 1, by omega, by go_num, by rw [EB.out, if_neg (by omega)], by rw [EF.out]; exact HO.out, hg⟩
                case measure => simp [intOf]; omega
            · have hsp0 : spB s k = false := by simpa using hsp
              have EB := hid (show begT s (k + 1) = k by rw [begT_no hsp0, hbe])
              have EF := hid (fldT_no hsp0)
              have hks : k < s.size := by
                rcases Nat.lt_or_ge k s.size with h | h
                · exact h
                · exact absurd (spB_end h) hsp
              have h32 : bt s k ≠ 32 := fun h => hsp (spB_yes h)
              have hq : ((k : Int) == (s.size : Int)) = false := by simp; omega
              have hbt := bt_eq hks
              have hks' : (k : Int) < s.size := by omega
              have h32' : (bt s k == 32) = false := by simpa using h32
              clear hsp hsp0 h32 hb hbe
              go_wp2
              go_roundw
              case rel => exact ⟨k + 1, by omega, by go_num, by rw [EB.out, if_pos (by omega)], by rw [EF.out]; exact HO.out, hg⟩
              case measure => simp [intOf]; omega
        · have hkl : k = s.size + 1 := by omega
          have hbn : ¬ begT s k < k := by rw [hkl, begT_sp (spB_end (Nat.le_refl _))]; omega
          rw [if_neg hbn]
          clear hbn hbl
          by_cases h24 : (fldT s (s.size + 1)).length ≤ 24
          · have hb : splB s = true := by simp [splB, hs, HT.out, h24]
            have EV : Hid (V = fldT s (s.size + 1)) := by show _ = _; rw [← HV.out]; exact spl_yes hb
            have EQ : Hid (Q = true) := by show _ = _; rw [← HQ.out]; exact hb
            have h24' : ((fldT s k).length : Int) ≤ 24 := by rw [hkl]; omega
            have hgt : (s.size : Int) < (k : Int) := by omega
            have HK := hid hkl
            generalize hF : fldT s k = F at *
            have HF := hid hF
            obtain ⟨au, cu, rfl⟩ : ∃ a c, u5 = .slice a F.length c := by
              rcases Go.Joins.ownsRow_forms hown with ⟨rfl, h⟩ | ⟨g, c, rfl⟩
              · exact ⟨none, 0, by rw [h]⟩
              · exact ⟨_, _, rfl⟩
            clear hb h24 hkl hF
            go_wp2
            go_ret2
            refine ⟨_, by rw [EQ.out]; rfl, ?_, hg⟩
            rw [EV.out, ← HK.out, HF.out]
            exact hown
          · have hb : splB s = false := by simp [splB, h24]
            have EV : Hid (V = []) := by show _ = _; rw [← HV.out]; exact spl_no hb
            have EQ : Hid (Q = false) := by show _ = _; rw [← HQ.out]; exact hb
            have h24' : (24 : Int) < ((fldT s k).length : Int) := by rw [hkl]; omega
            have hgt : (s.size : Int) < (k : Int) := by omega
            generalize hF : fldT s k = F at *
            obtain ⟨au, cu, rfl⟩ : ∃ a c, u5 = .slice a F.length c := by
              rcases Go.Joins.ownsRow_forms hown with ⟨rfl, h⟩ | ⟨g, c, rfl⟩
              · exact ⟨none, 0, by rw [h]⟩
              · exact ⟨_, _, rfl⟩
            clear hb h24 hkl hF
            go_wp2
            go_ret2
            exact ⟨_, by rw [EQ.out]; rfl, by rw [EV.out]; exact World.ownsRow_nil _ _ _ _, hg⟩
theorem emptyS {w wr : World} {E : TypeId} (hg : Gr w wr none) : OwnS E (wr.alloc (.cells #[] E)) w.heap.size (.slice (some ⟨wr.heap.size, 0, none⟩) 0 0) [] :=
  World.ownsRow_made wr #[] 0 (gr_le hg) (by unfold maxLen; omega) rfl
set_option maxHeartbeats 1000000 in
theorem sSplitFields_any (s : ByteArray) (w : World) :
    Calls Tryd.prog 19 #[.string s] w (RetSB 9 w (splV s) (splB s)) := by
  by_cases hs : s.size ≤ 600
  case neg =>
    have hb : splB s = false := by simp [splB, hs]
    rw [spl_no hb, hb]
    have hs' : (600 : Int) < s.size := by omega
    clear hb
    go_enter Tryd.func19, Tryd.ntmps19
    go_wp2
    go_ret2
    exact ⟨_, rfl, emptyS (gr_refl _ _), (by repeat (first | (with_reducible exact gr_refl _ _) | (with_reducible assumption) | (with_reducible refine gr_drew ?_) | (with_reducible refine gr_drewN ?_ _) | (with_reducible refine gr_alloc ?_ _) | (with_reducible refine gr_set ?_ (.inr (by simp; done)) _) | (with_reducible refine gr_set ?_ (.inr (by simp; omega)) _) | (with_reducible refine gr_then ?_ (by with_reducible assumption))))⟩
  case pos =>
  have hs' : (s.size : Int) ≤ 600 := by omega
  obtain ⟨i0, hi, hz0, hz1, hz2⟩ := info_parts info_str
  generalize hV : splV s = V
  generalize hQ : splB s = Q
  have HV := hid hV
  have HQ := hid hQ
  clear hV hQ
  go_enter Tryd.func19, Tryd.ntmps19
  go_wp2_with fail
  go_loopw [4, 5, 6] (fun u b i wr => ∃ k : Nat, k ≤ s.size + 1 ∧ i = .int .i64 k ∧ b = .int .i64 (begT s k) ∧ txtTo s (min k s.size) = true ∧ wr.ownsRow w.heap.size 9 1 u (fldT s k).length ((fldT s k).map Value.string) ∧ Gr w wr none) (fun _ _ i _ => s.size + 1 - (intOf i).toNat)
  case atStart => exact ⟨0, by omega, rfl, rfl, by simp [txtTo], World.ownsRow_made w #[] 0 (Nat.le_refl _) (by unfold maxLen; omega) rfl, gr_alloc (gr_refl _ _) _⟩
  case round =>
    obtain ⟨k, hk, rfl, rfl, ht, hown, hg⟩ := hrel
    have HT := hid ht
    have hfl := fldT_len s k
    have hbl := begT_le s k
    have hz : w.heap.size ≤ wr.heap.size + 1 := by have := gr_le hg; omega
    clear ht
    by_cases hlt2 : k ≤ s.size
    · have HO := hid hown
      clear hown
      by_cases hks : k < s.size
      · have hks' : (k : Int) < s.size := by omega
        have hbt := bt_eq hks
        cases hc : okC s k
        · have hb : splB s = false := by simp [splB, txtTo_bad hc s.size hks]
          have EV : Hid (V = []) := by show _ = _; rw [← HV.out]; exact spl_no hb
          have EQ : Hid (Q = false) := by show _ = _; rw [← HQ.out]; exact hb
          have hc' : ¬ (32 ≤ bt s k ∧ bt s k ≤ 126) := by intro h; simp [okC, h.1, h.2] at hc
          clear hc hb
          by_cases h1 : bt s k < 32
          · clear hc'
            go_wp2
            go_ret2
            exact ⟨_, by rw [EQ.out]; rfl, by rw [EV.out]; exact emptyS hg, (by repeat (first | (with_reducible exact gr_refl _ _) | (with_reducible assumption) | (with_reducible refine gr_drew ?_) | (with_reducible refine gr_drewN ?_ _) | (with_reducible refine gr_alloc ?_ _) | (with_reducible refine gr_set ?_ (.inr (by simp; done)) _) | (with_reducible refine gr_set ?_ (.inr (by simp; omega)) _) | (with_reducible refine gr_then ?_ (by with_reducible assumption))))⟩
          · have h2 : 126 < bt s k := by omega
            have h1' : 32 ≤ bt s k := by omega
            clear hc' h1
            go_wp2
            go_ret2
            exact ⟨_, by rw [EQ.out]; rfl, by rw [EV.out]; exact emptyS hg, (by repeat (first | (with_reducible exact gr_refl _ _) | (with_reducible assumption) | (with_reducible refine gr_drew ?_) | (with_reducible refine gr_drewN ?_ _) | (with_reducible refine gr_alloc ?_ _) | (with_reducible refine gr_set ?_ (.inr (by simp; done)) _) | (with_reducible refine gr_set ?_ (.inr (by simp; omega)) _) | (with_reducible refine gr_then ?_ (by with_reducible assumption))))⟩
        · have TX : Hid (txtTo s (min (k + 1) s.size) = true) := by
            show _ = _
            rw [show min (k + 1) s.size = k + 1 by omega]
            exact txtTo_succ (by have := HT.out; rwa [show min k s.size = k by omega] at this) hc
          have h12 : 32 ≤ bt s k ∧ bt s k ≤ 126 := by simpa [okC] using hc
          obtain ⟨h1, h2⟩ := h12
          by_cases h32 : bt s k = 32
          · have hsp := spB_yes h32
            rw [h32] at hbt
            have EB := hid (begT_sp hsp)
            by_cases hb : begT s k < k
            · have EF := hid (fldT_add hsp hb)
              generalize hB : begT s k = B at *
              generalize hF : fldT s k = F at *
              have hb1 : (B : Int) < (k : Int) := by omega
              have hb2 : (k : Int) ≤ (s.size : Int) := by omega
              have hb3 : (0 : Int) ≤ (B : Int) := by omega
              clear hsp hB hF h32 hc
              go_wp2_with (at_builtin; refine wpList_append_own _ rfl _ _ 33 rfl w.heap.size 9 i0 (.string ByteArray.empty) 1 16 Tryd.underlying33 hi hz0 hz1 hz2 rfl (by decide) _ _ _ rfl (HO.out.alloc _) ⟨wr.heap.size, 0, none⟩ 1 1 [.string (s.extract B k)] rfl rfl (new_one _ _ _) (one_str _) (by unfold maxLen; omega) (by omega) (by simpa using hz) ?_)
              intro v' w3 hown' hgrow _
              have hg3 := gr_append hg HO.out (Nat.le_refl _) hgrow
              have HO3 := hid hown'
              clear hown' hgrow
              go_wp2
              go_roundw
              case rel => exact ⟨k + 1, by omega, by go_num, (by first | (rw [EB.out]; done) | (rw [EB.out]; go_num)), TX.out, by rw [EF.out, List.map_append, List.length_append]; exact HO3.out, hg3⟩
              case measure => simp [intOf]; omega
            · have EF := hid (fldT_sp hb)
              have hbe : begT s k = k := by omega
              rw [hbe]
              clear hsp hb hbe h32 hc hbl
              go_wp2
              go_roundw
              case rel => exact ⟨k + 1, by omega, by go_num, (by first | (rw [EB.out]; done) | (rw [EB.out]; go_num)), TX.out, by rw [EF.out]; exact HO.out, hg⟩
              case measure => simp [intOf]; omega
          · have hsp0 := spB_no hks h32
            have h32' : (bt s k != 32) = true := by simpa using h32
            have EB := hid (begT_no hsp0)
            have EF := hid (fldT_no hsp0)
            clear hsp0 h32 hc
            go_wp2
            go_roundw
            case rel => exact ⟨k + 1, by omega, by go_num, (by first | (rw [EB.out]; done) | (rw [EB.out]; go_num)), TX.out, by rw [EF.out]; exact HO.out, hg⟩
            case measure => simp [intOf]; omega
      · have hke : k = s.size := by omega
        have hsp := spB_end (s := s) (k := k) (by omega)
        have TX : Hid (txtTo s (min (k + 1) s.size) = true) := by
          have := HT.out
          rw [show min k s.size = min (k + 1) s.size by omega] at this
          exact this
        have hnl : decide ((k : Int) < (s.size : Int)) = false := by simp; omega
        have EB := hid (begT_sp hsp)
        by_cases hb : begT s k < k
        · have EF := hid (fldT_add hsp hb)
          generalize hB : begT s k = B at *
          generalize hF : fldT s k = F at *
          have hb1 : (B : Int) < (k : Int) := by omega
          have hb2 : (k : Int) ≤ (s.size : Int) := by omega
          have hb3 : (0 : Int) ≤ (B : Int) := by omega
          have HKE := hid hke
          clear hsp hB hF hke
          go_wp2_with (at_builtin; refine wpList_append_own _ rfl _ _ 33 rfl w.heap.size 9 i0 (.string ByteArray.empty) 1 16 Tryd.underlying33 hi hz0 hz1 hz2 rfl (by decide) _ _ _ rfl (HO.out.alloc _) ⟨wr.heap.size, 0, none⟩ 1 1 [.string (s.extract B k)] rfl rfl (new_one _ _ _) (one_str _) (by unfold maxLen; omega) (by omega) (by simpa using hz) ?_)
          intro v' w3 hown' hgrow _
          have hg3 := gr_append hg HO.out (Nat.le_refl _) hgrow
          have HO3 := hid hown'
          clear hown' hgrow
          go_wp2
          go_roundw
          case rel => exact ⟨k + 1, by omega, by go_num, (by first | (rw [EB.out]; done) | (rw [EB.out]; go_num)), TX.out, by rw [EF.out, List.map_append, List.length_append]; exact HO3.out, hg3⟩
          case measure => simp [intOf]; omega
        · have EF := hid (fldT_sp hb)
          have hbe : begT s k = k := by omega
          rw [hbe]
          have HKE := hid hke
          clear hsp hb hbe hbl hke
          go_wp2
          go_roundw
          case rel => exact ⟨k + 1, by omega, by go_num, (by first | (rw [EB.out]; done) | (rw [EB.out]; go_num)), TX.out, by rw [EF.out]; exact HO.out, hg⟩
          case measure => simp [intOf]; omega
    · have hkl : k = s.size + 1 := by omega
      have hgt : (s.size : Int) < (k : Int) := by omega
      have HTX : Hid (txtTo s s.size = true) := by have := HT.out; rwa [show min k s.size = s.size by omega] at this
      by_cases h24 : (fldT s (s.size + 1)).length ≤ 24
      · have hb : splB s = true := by simp [splB, hs, HTX.out, h24]
        have EV : Hid (V = fldT s (s.size + 1)) := by show _ = _; rw [← HV.out]; exact spl_yes hb
        have EQ : Hid (Q = true) := by show _ = _; rw [← HQ.out]; exact hb
        have h24' : ((fldT s k).length : Int) ≤ 24 := by rw [hkl]; omega
        have HK := hid hkl
        generalize begT s k = B at *
        generalize hF : fldT s k = F at *
        have HF := hid hF
        obtain ⟨au, cu, rfl⟩ : ∃ a c, u4 = .slice a F.length c := by
          rcases Go.Joins.ownsRow_forms hown with ⟨rfl, h⟩ | ⟨g, c, rfl⟩
          · exact ⟨none, 0, by rw [h]⟩
          · exact ⟨_, _, rfl⟩
        clear hb h24 hkl hF
        go_wp2
        go_ret2
        refine ⟨_, by rw [EQ.out]; rfl, ?_, hg⟩
        rw [EV.out, ← HK.out, HF.out]
        exact hown
      · have hb : splB s = false := by simp [splB, h24]
        have EV : Hid (V = []) := by show _ = _; rw [← HV.out]; exact spl_no hb
        have EQ : Hid (Q = false) := by show _ = _; rw [← HQ.out]; exact hb
        have h24' : (24 : Int) < ((fldT s k).length : Int) := by rw [hkl]; omega
        generalize begT s k = B at *
        generalize hF : fldT s k = F at *
        obtain ⟨au, cu, rfl⟩ : ∃ a c, u4 = .slice a F.length c := by
          rcases Go.Joins.ownsRow_forms hown with ⟨rfl, h⟩ | ⟨g, c, rfl⟩
          · exact ⟨none, 0, by rw [h]⟩
          · exact ⟨_, _, rfl⟩
        clear hb h24 hkl hF
        go_wp2
        go_ret2
        exact ⟨_, by rw [EQ.out]; rfl, by rw [EV.out]; exact emptyS hg, (by repeat (first | (with_reducible exact gr_refl _ _) | (with_reducible assumption) | (with_reducible refine gr_drew ?_) | (with_reducible refine gr_drewN ?_ _) | (with_reducible refine gr_alloc ?_ _) | (with_reducible refine gr_set ?_ (.inr (by simp; done)) _) | (with_reducible refine gr_set ?_ (.inr (by simp; omega)) _) | (with_reducible refine gr_then ?_ (by with_reducible assumption))))⟩
end Go.Proofs.YtjnphdjblmognaaDoor
