/- The law over numbers and their decimal text, walked. -/
import Derived.Test.YtjnphdjblmognaaDoorParse
import Derived.Test.YtjnphdjblmognaaDoorClamp
namespace Go.Proofs.YtjnphdjblmognaaDoor
open Go.RowKit

theorem wrap_I64 (x : Int) : I64 (IntKind.i64.wrap x) := by rw [IntKind.wrap_i64]; unfold I64; omega
/-! ### Plain laws -/
theorem bt_list {s : ByteArray} {l r : List UInt8} {c : UInt8} (h : s.data.toList = l ++ c :: r) : bt s l.length = (c.toNat : Int) := by
  unfold bt
  rw [← Array.getElem?_toList, h]
  simp
theorem digits_spec : ∀ (u : Nat) (s : ByteArray) (r : List UInt8), s.data.toList = Lib.decDigits u ++ r → digTo s (Lib.decDigits u).length = true ∧ valT s (Lib.decDigits u).length = u := by
  intro u
  induction u using Nat.strongRecOn with
  | _ u ih =>
    intro s r h
    by_cases h10 : u < 10
    · rw [Lib.decDigits_one h10] at h ⊢
      have hb := bt_list (l := []) h
      have hc : ((UInt8.ofNat (48 + u)).toNat : Int) = 48 + u := by
        rw [UInt8.toNat_ofNat']; omega
      rw [hc] at hb
      simp only [List.length_nil] at hb
      simp only [List.length_cons, List.length_nil, Nat.zero_add, digTo, valT, digC, Bool.true_and, Bool.and_eq_true, decide_eq_true_eq]
      omega
    · have e : Lib.decDigits u = Lib.decDigits (u / 10) ++ [UInt8.ofNat (48 + u % 10)] := by rw [Lib.decDigits, dif_neg h10]
      rw [e] at h ⊢
      have h' : s.data.toList = Lib.decDigits (u / 10) ++ (UInt8.ofNat (48 + u % 10) :: r) := by rw [h, List.append_assoc]; rfl
      obtain ⟨h1, h2⟩ := ih (u / 10) (by omega) s _ h'
      have hb := bt_list h'
      have hc : ((UInt8.ofNat (48 + u % 10)).toNat : Int) = 48 + u % 10 := by
        rw [UInt8.toNat_ofNat']; omega
      rw [hc] at hb
      simp only [List.length_append, List.length_cons, List.length_nil, Nat.zero_add, digTo, valT, digC, h1, h2, hb, Bool.true_and, Bool.and_eq_true, decide_eq_true_eq]
      omega
theorem digits_short : ∀ (k u : Nat), u < 10 ^ (k + 1) → (Lib.decDigits u).length ≤ k + 1
  | 0, u, h => by rw [Lib.decDigits_one (by omega)]; simp
  | k + 1, u, h => by
    by_cases h10 : u < 10
    · rw [Lib.decDigits_one h10]; simp
    · rw [Lib.decDigits, dif_neg h10]
      have := digits_short k (u / 10) (by rw [Nat.pow_succ] at h; omega)
      simp; omega
theorem parse_nat (u : Nat) : parseB (itoaS u) = decide ((u : Int) ≤ 1000000000) ∧ ((u : Int) ≤ 1000000000 → parseV (itoaS u) = u) := by
  have hd : (itoaS (u : Int)).data.toList = Lib.decDigits u := by rw [itoaS_data, Lib.itoa_nonneg]
  have hz : (itoaS (u : Int)).size = (Lib.decDigits u).length := by rw [itoaS_size, Lib.itoa_nonneg]
  obtain ⟨h1, h2⟩ := digits_spec u (itoaS u) [] (by rw [hd]; simp)
  rw [← hz] at h1 h2
  by_cases hle : (u : Int) ≤ 1000000000
  · have hs : (itoaS (u : Int)).size ≤ 10 := by rw [hz]; exact digits_short 9 u (by omega)
    have hb : parseB (itoaS u) = true := by rw [parseB, h1, h2]; simp [hs, hle]
    exact ⟨by rw [hb]; simp [hle], fun _ => by rw [parse_yes hb, h2]⟩
  · have hb : parseB (itoaS u) = false := by rw [parseB, h2]; simp [hle]
    exact ⟨by rw [hb]; simp [hle], fun h => absurd h hle⟩
theorem parse_neg {n : Int} (h : n < 0) : parseB (itoaS n) = false := by
  have hd : (itoaS n).data.toList = 45 :: Lib.decDigits n.natAbs := by rw [itoaS_data]; unfold Lib.itoa; rw [if_pos h]
  have hb := bt_list (l := []) hd
  have hc : digC (itoaS n) 0 = false := by
    simp only [List.length_nil] at hb
    rw [digC, hb]; rfl
  rw [parseB, digTo_bad hc _ (itoaS_pos n)]
  simp
def inN (n : Int) : Bool := decide (0 ≤ n) && decide (n ≤ 1000000000)
theorem parse_all (n : Int) : parseB (itoaS n) = inN n ∧ (inN n = true → parseV (itoaS n) = n) := by
  by_cases h : 0 ≤ n
  · obtain ⟨u, rfl⟩ := Int.eq_ofNat_of_zero_le h
    have := parse_nat u
    exact ⟨by rw [this.1]; simp [inN], fun h' => this.2 (by simpa [inN] using h')⟩
  · exact ⟨by rw [parse_neg (by omega)]; simp [inN, h], fun h' => absurd h' (by simp [inN, h])⟩
theorem itoaS_ne (n : Int) : ((itoaS n).toList == (⟨#[]⟩ : ByteArray).toList) = false := by
  refine str_ne fun e => ?_
  have := itoaS_pos n
  rw [e] at this
  exact absurd this (by decide)
theorem itoaS_ne' (n : Int) : (itoaS n).toList.isEmpty = false := by
  rw [ByteArray.toList_eq, itoaS_data]
  have h := itoaS_pos n
  rw [itoaS_size] at h
  cases hh : Lib.itoa n with
  | nil => rw [hh] at h; simp at h
  | cons a l => rfl
def RetAny0 (w : World) (e : Ending) (w' : World) : Prop := ∃ x : Int, e = .returned (.int .i64 x) ∧ I64 x ∧ Gr w w' none
theorem drawFormatInt_any {v : Value} {n : Nat} (w : World) (h : BytesN w v n) (hn : n ≤ 1048576) : Calls Tryd.prog 16 #[v] w (RetAny0 w) := by
  go_enter Tryd.func16, Tryd.ntmps16
  go_wp2_with fail
  refine (l01New_any _ h hn).mono ?_
  rintro e w1 ⟨C, hC, rfl, hc, g1⟩
  go_wp2_with fail
  refine (l01Once_any _ _ hc (by omega) (by omega)).mono ?_
  rintro e w2 ⟨q, rfl, hc2, g2⟩
  cases q
  · go_wp2_with fail
    refine (l01Number_any _ hc2).mono ?_
    rintro e w3 ⟨x, rfl, hx, hc3, g3⟩
    have HX := hid hx
    have HG := hid (gr_trans g1 (gr_same g2 g3) (fun j e => by cases e; exact .inr hC))
    clear hx g1 g2 g3 hc hc2 hc3 h
    go_wp2
    go_ret
    exact ⟨_, rfl, HX.out, HG.out⟩
  · go_wp2_with fail
    refine (l01Below_any _ _ hc2 (by omega) (by omega)).mono ?_
    rintro e w3 ⟨x, x1, x2, rfl, hc3, g3⟩
    go_wp2_with fail
    refine (l01Below_any _ _ hc3 (by omega) (by omega)).mono ?_
    rintro e w4 ⟨y, y1, y2, rfl, hc4, g4⟩
    have HG := hid (gr_trans g1 (gr_same g2 (gr_same g3 g4)) (fun j e => by cases e; exact .inr hC))
    have hw : I64 (x * (y - 1000000)) := by
      have a1 : x * (y - 1000000) ≤ x * 1000000 := Int.mul_le_mul_of_nonneg_left (by omega) x1
      have a2 : x * (-1000000) ≤ x * (y - 1000000) := Int.mul_le_mul_of_nonneg_left (by omega) x1
      unfold I64; omega
    have hwr : IntKind.i64.wrap (x * (y - 1000000)) = x * (y - 1000000) := IntWalk.i64_in _ hw
    have HW := hid hw
    clear hw g1 g2 g3 g4 hc hc2 hc3 hc4 h
    go_wp2
    go_ret
    exact ⟨_, rfl, by first | exact HW.out | exact wrap_I64 _, HG.out⟩
theorem walk_FnNumbers (v : Value) (n : Nat) (w : World) (h : BytesN w v n) (ht : Tab w) :
    Calls Tryd.prog 6 #[v] w fun e w' => e = .returned (.bool true) ∧ Gr w w' none := by
  by_cases hn : n ≤ 1048576
  case neg =>
    have hb : decide (1048576 < (n : Int)) = true := by simp; omega
    go_enter Tryd.func6, Tryd.ntmps6
    go_wp2_with fail
    refine (big_any _ h).mono ?_
    rw [hb]
    rintro e w' ⟨rfl, rfl⟩
    go_wp2
    go_ret
    exact ⟨rfl, gr_refl _ _⟩
  case pos =>
  have hb : decide (1048576 < (n : Int)) = false := by simp; omega
  have HB := hid h
  have HT := hid ht
  clear ht
  go_enter Tryd.func6, Tryd.ntmps6
  go_wp2_with fail
  refine (big_any _ h).mono ?_
  rw [hb]
  rintro e w' ⟨rfl, rfl⟩
  clear h hb
  go_wp2_with fail
  refine (drawFormatInt_any _ HB.out hn).mono ?_
  rintro e w1 ⟨x, rfl, hx, g1⟩
  have HX := hid hx
  have T1 := hid (HT.out.on g1)
  have G1 := hid g1
  clear hx g1
  go_wp2_with fail
  refine (formatInt_any _ _ HX.out T1.out).mono ?_
  rintro e w2 ⟨rfl, g2⟩
  have T2 := hid (T1.out.on g2)
  have G2 := hid (gr_then G1.out g2)
  have HP := hid (parse_all x)
  have hne := itoaS_ne x
  have hne' := itoaS_ne' x
  clear g2
  go_wp2_with fail
  refine (parseUint_any _ _ T2.out).mono ?_
  rw [HP.out.1]
  rintro e w3 ⟨rfl, g3⟩
  have G3 := hid (gr_then G2.out g3)
  generalize hS : itoaS x = S at *
  clear hS g3
  cases hin : inN x
  · have h2 : ¬ (0 ≤ x ∧ x ≤ 1000000000) := by intro h; simp [inN, h.1, h.2] at hin
    generalize parseV S = V
    clear hin
    by_cases h0 : 0 ≤ x
    · have h1 : (1000000000 : Int) < x := by omega
      clear h2
      go_wp2
      go_ret
      exact ⟨rfl, G3.out⟩
    · have h1 : x < 0 := by omega
      clear h2 h0
      go_wp2
      go_ret
      exact ⟨rfl, G3.out⟩
  · have e := HP.out.2 hin
    rw [e]
    obtain ⟨h1, h2⟩ : 0 ≤ x ∧ x ≤ 1000000000 := by simpa [inN] using hin
    clear hin e
    go_wp2
    go_ret
    exact ⟨rfl, G3.out⟩
end Go.Proofs.YtjnphdjblmognaaDoor
