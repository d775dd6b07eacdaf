/- Decimal text read as a number: the program's ParseUint and the model's. -/
import Derived.Test.YtjnphdjblmognaaDoorItoa
import Derived.Test.YtjnphdjblmognaaDoorDec
namespace Go.Proofs.YtjnphdjblmognaaDoor
open Go.RowKit

def digC (s : ByteArray) (i : Nat) : Bool := decide (48 ≤ bt s i) && decide (bt s i ≤ 57)
def digTo (s : ByteArray) : Nat → Bool
  | 0 => true
  | k + 1 => digTo s k && digC s k
def valT (s : ByteArray) : Nat → Int
  | 0 => 0
  | k + 1 => 10 * valT s k + (bt s k - 48)
theorem digTo_bad {s : ByteArray} {i : Nat} (h : digC s i = false) : ∀ n, i < n → digTo s n = false := by
  intro n
  induction n with
  | zero => intro h'; omega
  | succ n ih =>
    intro h'
    by_cases e : i = n
    · subst e; simp [digTo, h]
    · simp [digTo, ih (by omega)]
theorem digTo_succ {s : ByteArray} {n : Nat} (h : digTo s n = true) (h' : digC s n = true) : digTo s (n + 1) = true := by simp [digTo, h, h']
theorem digC_bd {s : ByteArray} {i : Nat} (h : digC s i = true) : 48 ≤ bt s i ∧ bt s i ≤ 57 := by simpa [digC] using h
theorem valT_bd {s : ByteArray} : ∀ k, digTo s k = true → 0 ≤ valT s k ∧ valT s k < (10 ^ k : Nat)
  | 0, _ => by simp [valT]
  | k + 1, h => by
    simp only [digTo, Bool.and_eq_true] at h
    have h1 := valT_bd k h.1
    have h2 := digC_bd h.2
    simp only [valT]
    rw [Nat.pow_succ]
    omega
theorem valT_10 {s : ByteArray} {k : Nat} (h : digTo s k = true) (hk : k ≤ 10) : 0 ≤ valT s k ∧ valT s k ≤ 9999999999 := by
  have h1 := valT_bd k h
  have h2 : 10 ^ k ≤ 10 ^ 10 := Nat.pow_le_pow_right (by omega) hk
  have h3 : (10 : Nat) ^ 10 = 10000000000 := rfl
  omega
open Classical in
noncomputable def parseB (s : ByteArray) : Bool := decide (s.size ≤ 10) && digTo s s.size && decide (valT s s.size ≤ 1000000000) && decide (itoaS (valT s s.size) = s)
noncomputable def parseV (s : ByteArray) : Int := if parseB s then valT s s.size else 0
theorem parse_no {s : ByteArray} (h : parseB s = false) : parseV s = 0 := by rw [parseV, h]; rfl
theorem parse_yes {s : ByteArray} (h : parseB s = true) : parseV s = valT s s.size := by rw [parseV, h]; rfl
theorem decDigits_pos (u : Nat) : 1 ≤ (Lib.decDigits u).length := by
  rw [Lib.decDigits]; split <;> simp
theorem itoaS_pos (n : Int) : 1 ≤ (itoaS n).size := by
  rw [itoaS_size]
  unfold Lib.itoa
  split
  · simp
  · exact decDigits_pos _
theorem parse_empty {s : ByteArray} (h : s.size = 0) : parseB s = false := by
  have : ¬ itoaS (valT s s.size) = s := fun e => by have := itoaS_pos (valT s s.size); rw [e] at this; omega
  simp [parseB, this]
theorem str_eq {a b : ByteArray} (h : a = b) : (a.toList == b.toList) = true := by subst h; simp
def RetIB (v : Int) (q : Bool) (w : World) (e : Ending) (w' : World) : Prop := e = .returned (.tuple #[.int .i64 v, .bool q]) ∧ Gr w w' none
set_option maxHeartbeats 1000000 in
theorem parseUint_any (s : ByteArray) (w : World) (htab : Tab w) :
    Calls Tryd.prog 15 #[.string s] w (RetIB (parseV s) (parseB s) w) := by
  generalize hV : parseV s = V
  generalize hQ : parseB s = Q
  have HV := hid hV
  have HQ := hid hQ
  have HT := hid htab
  clear hV hQ htab
  by_cases h0 : s.size = 0
  · have EQ : Hid (Q = false) := by show _ = _; rw [← HQ.out]; exact parse_empty h0
    have EV : Hid (V = 0) := by show _ = _; rw [← HV.out]; exact parse_no (parse_empty h0)
    have h0' : (s.size : Int) < 1 := by omega
    clear h0
    go_enter Tryd.func15, Tryd.ntmps15
    go_wp2
    go_ret2
    exact ⟨by rw [EQ.out, EV.out]; rfl, gr_refl _ _⟩
  by_cases hs : s.size ≤ 10
  case neg =>
    have hb : parseB s = false := by simp [parseB, hs]
    have EQ : Hid (Q = false) := by show _ = _; rw [← HQ.out]; exact hb
    have EV : Hid (V = 0) := by show _ = _; rw [← HV.out]; exact parse_no hb
    have hs' : (10 : Int) < s.size := by omega
    have hs1 : (1 : Int) ≤ s.size := by omega
    clear hb h0 hs
    go_enter Tryd.func15, Tryd.ntmps15
    go_wp2
    go_ret2
    exact ⟨by rw [EQ.out, EV.out]; rfl, gr_refl _ _⟩
  case pos =>
  have hs' : (s.size : Int) ≤ 10 := by omega
  have hs1 : (1 : Int) ≤ s.size := by omega
  go_enter Tryd.func15, Tryd.ntmps15
  go_wp2_with fail
  go_loop [4, 5] (fun n i => ∃ k : Nat, k ≤ s.size ∧ i = .int .i64 k ∧ n = .int .i64 (valT s k) ∧ digTo s k = true) (fun _ i => s.size - (intOf i).toNat)
  case atStart => exact ⟨0, by omega, rfl, rfl, rfl⟩
  case round =>
    obtain ⟨k, hk, rfl, rfl, ht⟩ := hrel
    have HD := hid ht
    clear ht
    obtain ⟨v0, v1⟩ := valT_10 HD.out (by omega)
    by_cases hlt : k < s.size
    · have hlt' : (k : Int) < s.size := by omega
      have hbt := bt_eq hlt
      have E : Hid (valT s (k + 1) = 10 * valT s k + (bt s k - 48)) := rfl
      cases hc : digC s k
      · have hb : parseB s = false := by simp [parseB, digTo_bad hc s.size hlt]
        have EQ : Hid (Q = false) := by show _ = _; rw [← HQ.out]; exact hb
        have EV : Hid (V = 0) := by show _ = _; rw [← HV.out]; exact parse_no hb
        have hc' : ¬ (48 ≤ bt s k ∧ bt s k ≤ 57) := by intro h; simp [digC, h.1, h.2] at hc
        clear hc hb
        by_cases h1 : bt s k < 48
        · clear hc'
          go_wp2
          go_ret2
          exact ⟨by rw [EQ.out, EV.out]; rfl, gr_refl _ _⟩
        · have h2 : 57 < bt s k := by omega
          have h1' : 48 ≤ bt s k := by omega
          clear hc' h1
          go_wp2
          go_ret2
          exact ⟨by rw [EQ.out, EV.out]; rfl, gr_refl _ _⟩
      · obtain ⟨h1, h2⟩ := digC_bd hc
        have HC := hid hc
        generalize hZ : valT s k = Z at *
        have HZ := hid hZ
        clear hc hZ
        go_wp2
        go_round
        case rel => exact ⟨k + 1, by omega, by go_num, (by first | (rw [E.out]; done) | (rw [E.out]; go_num)), digTo_succ HD.out HC.out⟩
        case measure => simp [intOf]; omega
    · have hkl : k = s.size := by omega
      subst hkl
      generalize hZ : valT s s.size = Z at *
      have HZ := hid hZ
      by_cases hbig : Z ≤ 1000000000
      · by_cases he : itoaS Z = s
        · have hb : parseB s = true := by rw [parseB, HD.out, HZ.out]; simp [hs, hbig, he]
          have EQ : Hid (Q = true) := by show _ = _; rw [← HQ.out]; exact hb
          have EV : Hid (V = Z) := by show _ = _; rw [← HV.out, ← HZ.out]; exact parse_yes hb
          have HE := hid (str_eq he)
          clear hZ hb he hs h0
          go_wp2_with fail
          refine (formatInt_any _ _ (by unfold I64; omega) HT.out).mono ?_
          rintro e w2 ⟨rfl, g2⟩
          have HG := hid g2
          have he' := HE.out
          clear g2
          go_wp2
          go_ret2
          exact ⟨by rw [EQ.out, EV.out]; rfl, HG.out⟩
        · have hb : parseB s = false := by rw [parseB, HD.out, HZ.out]; simp [he]
          have EQ : Hid (Q = false) := by show _ = _; rw [← HQ.out]; exact hb
          have EV : Hid (V = 0) := by show _ = _; rw [← HV.out]; exact parse_no hb
          have HE := hid (str_ne he)
          clear hZ hb he hs h0
          go_wp2_with fail
          refine (formatInt_any _ _ (by unfold I64; omega) HT.out).mono ?_
          rintro e w2 ⟨rfl, g2⟩
          have HG := hid g2
          have he' := HE.out
          clear g2
          go_wp2
          go_ret2
          exact ⟨by rw [EQ.out, EV.out]; rfl, HG.out⟩
      · have hb : parseB s = false := by rw [parseB, HZ.out]; simp; omega
        have EQ : Hid (Q = false) := by show _ = _; rw [← HQ.out]; exact hb
        have EV : Hid (V = 0) := by show _ = _; rw [← HV.out]; exact parse_no hb
        have hbig' : (1000000000 : Int) < Z := by omega
        clear hZ hb hs h0 hbig
        go_wp2
        go_ret2
        exact ⟨by rw [EQ.out, EV.out]; rfl, gr_refl _ _⟩
set_option maxHeartbeats 1000000 in
theorem sParseUint_any (s : ByteArray) (w : World)  :
    Calls Tryd.prog 14 #[.string s] w (RetIB (parseV s) (parseB s) w) := by
  generalize hV : parseV s = V
  generalize hQ : parseB s = Q
  have HV := hid hV
  have HQ := hid hQ
  clear hV hQ
  by_cases hs : s.size ≤ 10
  case neg =>
    have hb : parseB s = false := by simp [parseB, hs]
    have EQ : Hid (Q = false) := by show _ = _; rw [← HQ.out]; exact hb
    have EV : Hid (V = 0) := by show _ = _; rw [← HV.out]; exact parse_no hb
    have hs' : (10 : Int) < s.size := by omega
    clear hb hs
    go_enter Tryd.func14, Tryd.ntmps14
    go_wp2
    go_ret2
    exact ⟨by rw [EQ.out, EV.out]; rfl, gr_refl _ _⟩
  case pos =>
  have hs' : (s.size : Int) ≤ 10 := by omega
  go_enter Tryd.func14, Tryd.ntmps14
  go_wp2_with fail
  go_loop [4, 5] (fun n i => ∃ k : Nat, k ≤ s.size ∧ i = .int .i64 k ∧ n = .int .i64 (valT s k) ∧ digTo s k = true) (fun _ i => s.size - (intOf i).toNat)
  case atStart => exact ⟨0, by omega, rfl, rfl, rfl⟩
  case round =>
    obtain ⟨k, hk, rfl, rfl, ht⟩ := hrel
    have HD := hid ht
    clear ht
    obtain ⟨v0, v1⟩ := valT_10 HD.out (by omega)
    by_cases hlt : k < s.size
    · have hlt' : (k : Int) < s.size := by omega
      have hbt := bt_eq hlt
      have E : Hid (valT s (k + 1) = 10 * valT s k + (bt s k - 48)) := rfl
      cases hc : digC s k
      · have hb : parseB s = false := by simp [parseB, digTo_bad hc s.size hlt]
        have EQ : Hid (Q = false) := by show _ = _; rw [← HQ.out]; exact hb
        have EV : Hid (V = 0) := by show _ = _; rw [← HV.out]; exact parse_no hb
        have hc' : ¬ (48 ≤ bt s k ∧ bt s k ≤ 57) := by intro h; simp [digC, h.1, h.2] at hc
        clear hc hb
        by_cases h1 : bt s k < 48
        · clear hc'
          go_wp2
          go_ret2
          exact ⟨by rw [EQ.out, EV.out]; rfl, gr_refl _ _⟩
        · have h2 : 57 < bt s k := by omega
          have h1' : 48 ≤ bt s k := by omega
          clear hc' h1
          go_wp2
          go_ret2
          exact ⟨by rw [EQ.out, EV.out]; rfl, gr_refl _ _⟩
      · obtain ⟨h1, h2⟩ := digC_bd hc
        have HC := hid hc
        generalize hZ : valT s k = Z at *
        have HZ := hid hZ
        clear hc hZ
        go_wp2
        go_round
        case rel => exact ⟨k + 1, by omega, by go_num, (by first | (rw [E.out]; done) | (rw [E.out]; go_num)), digTo_succ HD.out HC.out⟩
        case measure => simp [intOf]; omega
    · have hkl : k = s.size := by omega
      subst hkl
      generalize hZ : valT s s.size = Z at *
      have HZ := hid hZ
      by_cases hbig : Z ≤ 1000000000
      · by_cases he : itoaS Z = s
        · have hb : parseB s = true := by rw [parseB, HD.out, HZ.out]; simp [hs, hbig, he]
          have EQ : Hid (Q = true) := by show _ = _; rw [← HQ.out]; exact hb
          have EV : Hid (V = Z) := by show _ = _; rw [← HV.out, ← HZ.out]; exact parse_yes hb
          have HE := hid (str_eq he)
          clear hZ hb he hs
          go_wp2_with fail
          refine (sFormatInt_any _ _ (by unfold I64; omega)).mono ?_
          rintro e w2 ⟨rfl, g2⟩
          have HG := hid g2
          have he' := HE.out
          clear g2
          go_wp2
          go_ret2
          exact ⟨by rw [EQ.out, EV.out]; rfl, HG.out⟩
        · have hb : parseB s = false := by rw [parseB, HD.out, HZ.out]; simp [he]
          have EQ : Hid (Q = false) := by show _ = _; rw [← HQ.out]; exact hb
          have EV : Hid (V = 0) := by show _ = _; rw [← HV.out]; exact parse_no hb
          have HE := hid (str_ne he)
          clear hZ hb he hs
          go_wp2_with fail
          refine (sFormatInt_any _ _ (by unfold I64; omega)).mono ?_
          rintro e w2 ⟨rfl, g2⟩
          have HG := hid g2
          have he' := HE.out
          clear g2
          go_wp2
          go_ret2
          exact ⟨by rw [EQ.out, EV.out]; rfl, HG.out⟩
      · have hb : parseB s = false := by rw [parseB, HZ.out]; simp; omega
        have EQ : Hid (Q = false) := by show _ = _; rw [← HQ.out]; exact hb
        have EV : Hid (V = 0) := by show _ = _; rw [← HV.out]; exact parse_no hb
        have hbig' : (1000000000 : Int) < Z := by omega
        clear hZ hb hs hbig
        go_wp2
        go_ret2
        exact ⟨by rw [EQ.out, EV.out]; rfl, gr_refl _ _⟩
theorem walk_FnExactParseUint (s : ByteArray) (w : World) (_ : s.size ≤ maxLen) (ht : Tab w) :
    Calls Tryd.prog 5 #[.string s] w fun e w' => e = .returned (.bool true) ∧ Gr w w' none := by
  by_cases hb : s.size ≤ 1048576
  · have hb' : (s.size : Int) ≤ 1048576 := by omega
    have HT := hid ht
    clear ht hb
    go_enter Tryd.func5, Tryd.ntmps5
    go_wp2_with fail
    refine (sParseUint_any _ _).mono ?_
    rintro e w1 ⟨rfl, g1⟩
    have HG1 := hid g1
    have T1 := hid (HT.out.on g1)
    clear g1
    go_wp2_with fail
    refine (parseUint_any _ _ T1.out).mono ?_
    rintro e w2 ⟨rfl, g2⟩
    have HG2 := hid (gr_then HG1.out g2)
    clear g2
    generalize parseB s = Q
    generalize parseV s = V
    have hq : (Q != Q) = false := by simp
    go_wp2
    go_ret
    exact ⟨rfl, HG2.out⟩
  · have hb' : (1048576 : Int) < s.size := by omega
    go_enter Tryd.func5, Tryd.ntmps5
    go_wp2
    go_ret
    exact ⟨rfl, gr_refl _ _⟩
end Go.Proofs.YtjnphdjblmognaaDoor
