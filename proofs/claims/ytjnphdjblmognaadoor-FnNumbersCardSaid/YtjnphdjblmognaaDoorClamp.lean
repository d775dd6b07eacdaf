/- Clamp and its laws. -/
import Derived.Test.YtjnphdjblmognaaDoorDraw
namespace Go.Proofs.YtjnphdjblmognaaDoor
open Go.RowKit

def clampV (n a b : Int) : Int := if b < a then a else if n < a then a else if b < n then b else n
theorem clampV_in {n a b : Int} (h : ¬ b < a) : a ≤ clampV n a b ∧ clampV n a b ≤ b ∧ clampV (clampV n a b) a b = clampV n a b ∧ (a ≤ n → n ≤ b → clampV n a b = n) := by
  have key : a ≤ clampV n a b ∧ clampV n a b ≤ b := by
    unfold clampV; rw [if_neg h]; split
    · omega
    · split <;> omega
  refine ⟨key.1, key.2, ?_, ?_⟩
  · generalize clampV n a b = y at key
    unfold clampV; rw [if_neg h, if_neg (by omega), if_neg (by omega)]
  · intro h1 h2; unfold clampV; rw [if_neg h, if_neg (by omega), if_neg (by omega)]
def RetAny (T : TypeId) (w : World) (C : Nat) (e : Ending) (w' : World) : Prop := ∃ x : Int, e = .returned (.int .i64 x) ∧ I64 x ∧ Cur T w' C ∧ Gr w w' (some C)
theorem l01Number_any {C : Nat} (w : World) (h : Cur 47 w C) : Calls Tryd.prog 28 #[.pointer (some ⟨C, 0, none⟩)] w (RetAny 47 w C) := by
  have hC := h.lt
  go_enter Tryd.func28, Tryd.ntmps28
  go_wp2_with fail
  refine (l01Below_any _ _ h (by omega) (by omega)).mono ?_
  rintro e w1 ⟨x, x1, x2, rfl, hc, hg⟩
  by_cases e0 : x = 0
  · subst e0
    have hlt := gr_le hg
    have hi := hid (ints_lit w1 3 [-1, 0, 127, 128, 16383, 16384, 1000000000, 1000000001, 9223372036854775807, -9223372036854775808] (by unfold I64; intro x hx; simp at hx; omega) (by decide))
    go_wp2_with fail
    refine (l01PickInt_any _ (hc.on (gr_alloc (gr_refl _ _) _)) hi.out (by simp) (by simp) (by simp [Value.ownBlock]; omega)).mono ?_
    rintro e w2 ⟨x, hx, rfl, hc, hg2⟩
    go_wp2
    go_ret
    exact ⟨_, rfl, by unfold I64; simp at hx; omega, hc, gr_same (gr_alloc hg _) hg2⟩
  by_cases e1 : x = 1
  · subst e1
    go_wp2_with fail
    refine (l01Below_any _ _ hc (by omega) (by omega)).mono ?_
    rintro e w2 ⟨x, x1, x2, rfl, hc, hg2⟩
    go_wp2
    go_ret
    exact ⟨_, rfl, by unfold I64; omega, hc, gr_same hg hg2⟩
  · have f0 : (x == 0) = false := by simp [e0]
    have f1 : (x == 1) = false := by simp [e1]
    go_wp2_with fail
    refine (l01Below_any _ _ hc (by omega) (by omega)).mono ?_
    rintro e w2 ⟨x, x1, x2, rfl, hc, hg2⟩
    go_wp2
    go_ret
    exact ⟨_, rfl, by unfold I64; omega, hc, gr_same hg hg2⟩
end Go.Proofs.YtjnphdjblmognaaDoor
