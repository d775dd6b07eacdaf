/- Clamp and its laws. -/
import Derived.Test.YtjnphdjblmognaaDraw
namespace Go.Proofs.Ytjnphdjblmognaa
open Go.RowKit

def clampV (n a b : Int) : Int := if b < a then a else if n < a then a else if b < n then b else n
theorem clampV_in {n a b : Int} (h : ¬ b < a) : a ≤ clampV n a b ∧ clampV n a b ≤ b ∧ clampV (clampV n a b) a b = clampV n a b ∧ (a ≤ n → n ≤ b → clampV n a b = n) := by
  have key : a ≤ clampV n a b ∧ clampV n a b ≤ b := by
    unfold clampV; rw [if_neg h]; split
    · omega
    · split <;> omega
  refine ⟨key.1, key.2, ?_, ?_⟩
  · generalize clampV n a b = y at key
    unfold clampV; rw [if_neg h, if_neg (by omega), if_neg (by omega)]
  · intro h1 h2; unfold clampV; rw [if_neg h, if_neg (by omega), if_neg (by omega)]
theorem clamp_any (n a b : Int) (w : World) :
    Calls Try.prog 14 #[.int .i64 n, .int .i64 a, .int .i64 b] w fun e w' => e = .returned (.int .i64 (clampV n a b)) ∧ w = w' := by
  by_cases h1 : b < a
  · rw [show clampV n a b = a from if_pos h1]
    go_enter Try.func14, Try.ntmps14
    go_wp2
    go_ret
    exact ⟨rfl, rfl⟩
  by_cases h2 : n < a
  · rw [show clampV n a b = a from by rw [clampV, if_neg h1, if_pos h2]]
    go_enter Try.func14, Try.ntmps14
    go_wp2
    go_ret
    exact ⟨rfl, rfl⟩
  by_cases h3 : b < n
  · rw [show clampV n a b = b from by rw [clampV, if_neg h1, if_neg h2, if_pos h3]]
    go_enter Try.func14, Try.ntmps14
    go_wp2
    go_ret
    exact ⟨rfl, rfl⟩
  · rw [show clampV n a b = n from by rw [clampV, if_neg h1, if_neg h2, if_neg h3]]
    go_enter Try.func14, Try.ntmps14
    go_wp2
    go_ret
    exact ⟨rfl, rfl⟩
theorem sClamp_any (n a b : Int) (w : World) :
    Calls Try.prog 13 #[.int .i64 n, .int .i64 a, .int .i64 b] w fun e w' => e = .returned (.int .i64 (clampV n a b)) ∧ w = w' := by
  by_cases h1 : b < a
  · rw [show clampV n a b = a from if_pos h1]
    go_enter Try.func13, Try.ntmps13
    go_wp2
    go_ret
    exact ⟨rfl, rfl⟩
  by_cases h2 : n < a
  · rw [show clampV n a b = a from by rw [clampV, if_neg h1, if_pos h2]]
    go_enter Try.func13, Try.ntmps13
    go_wp2
    go_ret
    exact ⟨rfl, rfl⟩
  by_cases h3 : b < n
  · rw [show clampV n a b = b from by rw [clampV, if_neg h1, if_neg h2, if_pos h3]]
    go_enter Try.func13, Try.ntmps13
    go_wp2
    go_ret
    exact ⟨rfl, rfl⟩
  · rw [show clampV n a b = n from by rw [clampV, if_neg h1, if_neg h2, if_neg h3]]
    go_enter Try.func13, Try.ntmps13
    go_wp2
    go_ret
    exact ⟨rfl, rfl⟩
theorem walk_FnExactClamp (n a b : Int) (w : World) (_ : I64 n) (_ : I64 a) (_ : I64 b) :
    Calls Try.prog 6 #[.int .i64 n, .int .i64 a, .int .i64 b] w fun e w' => e = .returned (.bool true) ∧ Gr w w' none := by
  go_enter Try.func6, Try.ntmps6
  go_wp2_with fail
  refine (sClamp_any _ _ _ _).mono ?_
  rintro e w1 ⟨rfl, rfl⟩
  go_wp2_with fail
  refine (clamp_any _ _ _ _).mono ?_
  rintro e w1 ⟨rfl, rfl⟩
  go_wp2
  go_ret
  exact ⟨rfl, gr_refl _ _⟩
def RetAny (T : TypeId) (w : World) (C : Nat) (e : Ending) (w' : World) : Prop := ∃ x : Int, e = .returned (.int .i64 x) ∧ I64 x ∧ Cur T w' C ∧ Gr w w' (some C)
theorem l01Number_any {C : Nat} (w : World) (h : Cur 46 w C) : Calls Try.prog 26 #[.pointer (some ⟨C, 0, none⟩)] w (RetAny 46 w C) := by
  have hC := h.lt
  go_enter Try.func26, Try.ntmps26
  go_wp2_with fail
  refine (l01Below_any _ _ h (by omega) (by omega)).mono ?_
  rintro e w1 ⟨x, x1, x2, rfl, hc, hg⟩
  by_cases e0 : x = 0
  · subst e0
    have hlt := gr_le hg
    have hi := hid (ints_lit w1 3 [-1, 0, 127, 128, 16383, 16384, 1000000000, 1000000001, 9223372036854775807, -9223372036854775808] (by unfold I64; intro x hx; simp at hx; omega) (by decide))
    go_wp2_with fail
    refine (l01PickInt_any _ (hc.on (gr_alloc (gr_refl _ _) _)) hi.out (by simp) (by simp) (by simp [Value.ownBlock]; omega)).mono ?_
    rintro e w2 ⟨x, hx, rfl, hc, hg2⟩
    go_wp2
    go_ret
    exact ⟨_, rfl, by unfold I64; simp at hx; omega, hc, gr_same (gr_alloc hg _) hg2⟩
  by_cases e1 : x = 1
  · subst e1
    go_wp2_with fail
    refine (l01Below_any _ _ hc (by omega) (by omega)).mono ?_
    rintro e w2 ⟨x, x1, x2, rfl, hc, hg2⟩
    go_wp2
    go_ret
    exact ⟨_, rfl, by unfold I64; omega, hc, gr_same hg hg2⟩
  · have f0 : (x == 0) = false := by simp [e0]
    have f1 : (x == 1) = false := by simp [e1]
    go_wp2_with fail
    refine (l01Below_any _ _ hc (by omega) (by omega)).mono ?_
    rintro e w2 ⟨x, x1, x2, rfl, hc, hg2⟩
    go_wp2
    go_ret
    exact ⟨_, rfl, by unfold I64; omega, hc, gr_same hg hg2⟩
def Ret3I (w : World) (e : Ending) (w' : World) : Prop := ∃ x y z : Int, e = .returned (.tuple #[.int .i64 x, .int .i64 y, .int .i64 z]) ∧ Gr w w' none
theorem drawClamp_any {v : Value} {n : Nat} (w : World) (h : BytesN w v n) (hn : n ≤ 1048576) : Calls Try.prog 16 #[v] w (Ret3I w) := by
  go_enter Try.func16, Try.ntmps16
  go_wp2_with fail
  refine (l01New_any _ h hn).mono ?_
  rintro e w1 ⟨C, hB, rfl, hc, hg1⟩
  go_wp2_with fail
  refine (l01Once_any _ _ hc (by omega) (by omega)).mono ?_
  rintro e w2 ⟨b, rfl, hc2, hg2⟩
  cases b
  · go_wp2_with fail
    refine (l01Below_any _ _ hc2 (by omega) (by omega)).mono ?_
    rintro e w3 ⟨x, x1, x2, rfl, hc3, hg3⟩
    go_wp2_with fail
    refine (l01Below_any _ _ hc3 (by omega) (by omega)).mono ?_
    rintro e w4 ⟨y, y1, y2, rfl, hc4, hg4⟩
    go_wp2_with fail
    refine (l01Below_any _ _ hc4 (by omega) (by omega)).mono ?_
    rintro e w5 ⟨z, z1, z2, rfl, hc5, hg5⟩
    go_wp2
    refine bodyPost_ret (v := .tuple #[.int .i64 (y - 40), .int .i64 (x - 20), .int .i64 (x - 20 + z - 3)]) (by simp [results, Try.results16, go_sem]) rfl ?_
    exact ⟨_, _, _, rfl, gr_trans hg1 (gr_same hg2 (gr_same hg3 (gr_same hg4 hg5))) (fun j e => by cases e; exact .inr hB)⟩
  · go_wp2_with fail
    refine (l01Number_any _ hc2).mono ?_
    rintro e w3 ⟨x, rfl, x2, hc3, hg3⟩
    go_wp2_with fail
    refine (l01Number_any _ hc3).mono ?_
    rintro e w4 ⟨y, rfl, y2, hc4, hg4⟩
    go_wp2_with fail
    refine (l01Number_any _ hc4).mono ?_
    rintro e w5 ⟨z, rfl, z2, hc5, hg5⟩
    go_wp2
    refine bodyPost_ret (v := .tuple #[.int .i64 x, .int .i64 y, .int .i64 z]) (by simp [results, Try.results16, go_sem]) rfl ?_
    exact ⟨_, _, _, rfl, gr_trans hg1 (gr_same hg2 (gr_same hg3 (gr_same hg4 hg5))) (fun j e => by cases e; exact .inr hB)⟩
theorem walk_FnClamped (v : Value) (n : Nat) (w : World) (h : BytesN w v n) :
    Calls Try.prog 7 #[v] w fun e w' => e = .returned (.bool true) ∧ Gr w w' none := by
  by_cases hn : n ≤ 1048576
  · go_enter Try.func7, Try.ntmps7
    go_wp2_with fail
    refine (big_any _ h).mono ?_
    rw [show decide (1048576 < (n : Int)) = false from by simp; omega]
    rintro e w1 ⟨rfl, rfl⟩
    go_wp2_with fail
    refine (drawClamp_any _ h hn).mono ?_
    rintro e w2 ⟨x, a, b, rfl, g2⟩
    go_wp2_with fail
    refine (clamp_any _ _ _ _).mono ?_
    rintro e w3 ⟨rfl, rfl⟩
    by_cases hlt : b < a
    · rw [show clampV x a b = a from if_pos hlt]
      go_wp2_with fail
      refine (clamp_any _ _ _ _).mono ?_
      rw [show clampV 7 3 5 = 5 from by decide]
      rintro e w3 ⟨rfl, rfl⟩
      go_wp2
      go_ret
      exact ⟨rfl, g2⟩
    · obtain ⟨k1, k2, k3, k4⟩ := clampV_in (n := x) hlt
      generalize clampV x a b = y at k1 k2 k3 k4
      go_wp2_with fail
      refine (clamp_any _ _ _ _).mono ?_
      rw [k3]
      rintro e w3 ⟨rfl, rfl⟩
      by_cases h1 : x < a
      · go_wp2_with fail
        refine (clamp_any _ _ _ _).mono ?_
        rw [show clampV 7 3 5 = 5 from by decide]
        rintro e w3 ⟨rfl, rfl⟩
        go_wp2
        go_ret
        exact ⟨rfl, g2⟩
      by_cases h2 : b < x
      · go_wp2_with fail
        refine (clamp_any _ _ _ _).mono ?_
        rw [show clampV 7 3 5 = 5 from by decide]
        rintro e w3 ⟨rfl, rfl⟩
        go_wp2
        go_ret
        exact ⟨rfl, g2⟩
      · obtain rfl := k4 (by omega) (by omega)
        go_wp2_with fail
        refine (clamp_any _ _ _ _).mono ?_
        rw [show clampV 7 3 5 = 5 from by decide]
        rintro e w3 ⟨rfl, rfl⟩
        go_wp2
        go_ret
        exact ⟨rfl, g2⟩
  · go_enter Try.func7, Try.ntmps7
    go_wp2_with fail
    refine (big_any _ h).mono ?_
    rw [show decide (1048576 < (n : Int)) = true from by simp; omega]
    rintro e w1 ⟨rfl, rfl⟩
    go_wp2
    go_ret
    exact ⟨rfl, gr_refl _ _⟩
theorem walk_FnExactConstants (w : World) :
    Calls Try.prog 3 #[] w fun e w' => e = .returned (.bool true) ∧ Gr w w' none := by
  go_enter Try.func3, Try.ntmps3
  go_wp2
  go_ret
  exact ⟨rfl, gr_refl _ _⟩
end Go.Proofs.Ytjnphdjblmognaa
