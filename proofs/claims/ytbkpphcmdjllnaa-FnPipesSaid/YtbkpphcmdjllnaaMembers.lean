/- The places of a set, as a list: walks. -/
import Derived.Test.YtbkpphcmdjllnaaWidest
import Derived.Test.YtbkpphcmdjllnaaSlc
namespace Go.Proofs.Ytbkpphcmdjllnaa
open Go.RowKit

def memTo (M : Nat) : Nat → List Int
  | 0 => []
  | k + 1 => if M.testBit k = true then memTo M k ++ [(k : Int)] else memTo M k
theorem memTo_length (M : Nat) : ∀ k, (memTo M k).length ≤ k
  | 0 => Nat.le_refl _
  | k + 1 => by
    have := memTo_length M k
    unfold memTo
    split
    · rw [List.length_append, List.length_singleton]; omega
    · omega
theorem memTo_i64 (M : Nat) : ∀ k, k ≤ 100 → ∀ x ∈ memTo M k, I64 x
  | 0, _, x, hx => by simp [memTo] at hx
  | k + 1, hk, x, hx => by
    unfold memTo at hx
    split at hx
    · rcases List.mem_append.1 hx with h | h
      · exact memTo_i64 M k (by omega) x h
      · simp at h; subst h; unfold I64; omega
    · exact memTo_i64 M k (by omega) x hx
theorem memTo_mem {M : Nat} {p : Nat} : ∀ k, (p : Int) ∈ memTo M k ↔ p < k ∧ M.testBit p = true
  | 0 => by simp [memTo]
  | k + 1 => by
    have ih := memTo_mem (M := M) (p := p) k
    unfold memTo
    split
    · rename_i hk
      rw [List.mem_append, ih, List.mem_singleton]
      constructor
      · rintro (h | h)
        · exact ⟨by omega, h.2⟩
        · have : p = k := by omega
          subst this; exact ⟨by omega, hk⟩
      · rintro ⟨h1, h2⟩
        by_cases e : p = k
        · right; omega
        · left; exact ⟨by omega, h2⟩
    · rename_i hk
      rw [ih]
      constructor
      · rintro ⟨h1, h2⟩; exact ⟨by omega, h2⟩
      · rintro ⟨h1, h2⟩
        by_cases e : p = k
        · subst e; exact absurd h2 hk
        · exact ⟨by omega, h2⟩
theorem memTo_rest {M k : Nat} (h : M / 2 ^ k = 0) : ∀ m, k ≤ m → memTo M m = memTo M k
  | 0, hm => by obtain rfl : k = 0 := by omega
                rfl
  | m + 1, hm => by
    by_cases e : k = m + 1
    · subst e; rfl
    · have hb : ¬ M.testBit m = true := by
        have hlt : M < 2 ^ k := by
          rcases Nat.lt_or_ge M (2 ^ k) with h' | h'
          · exact h'
          · have := Nat.div_pos h' (Nat.two_pow_pos k); omega
        rw [Nat.testBit_lt_two_pow (Nat.lt_of_lt_of_le hlt (Nat.pow_le_pow_right (by omega) (show k ≤ m by omega)))]
        simp
      rw [memTo, if_neg hb, memTo_rest h m (by omega)]
theorem sl_own' {w : World} {B : Nat} {E : TypeId} {s n : Nat} {v : Value} {xs : List Value} (h : w.ownsRow B E s v n xs) : ∃ a c, v = .slice a n c := by
  rcases h.2 with ⟨rfl, rfl⟩ | ⟨g, cap, cur, rfl, _⟩ <;> exact ⟨_, _, rfl⟩
theorem div_cast (M k : Nat) : (M : Int) / 2 ^ k = ((M / 2 ^ k : Nat) : Int) := by rw [Int.natCast_ediv, Int.natCast_pow]; rfl
theorem membersOf_any (M : Nat) (w : World) (hM : M < 256) :
    Calls Try.prog 31 #[.int .i64 M] w (RetI 3 w (memTo M 8)) := by
  obtain ⟨i0, hi, hz0, hz1, hz2⟩ := info_parts info_int
  go_enter Try.func31, Try.ntmps31
  go_wp2_with fail
  go_loopw [3, 4] (fun u i wr => ∃ k : Nat, k ≤ 8 ∧ i = .int .i64 k ∧ wr.ownsRow w.heap.size 3 1 u (memTo M k).length ((memTo M k).map (Value.int .i64)) ∧ Gr w wr none) (fun _ i _ => 8 - (intOf i).toNat)
  case atStart => exact ⟨0, by omega, rfl, World.ownsRow_nil _ _ _ _, gr_refl _ _⟩
  case round =>
    obtain ⟨k, hk, rfl, hown, hg⟩ := hrel
    obtain ⟨ua, uc, rfl⟩ := sl_own' hown
    have hdc := div_cast M k
    by_cases hp : 0 < M / 2 ^ k
    · have hp' : 0 < (M : Int) / 2 ^ k := by rw [hdc]; exact Int.ofNat_lt.2 hp
      have hk8 : k < 8 := by
        rcases Nat.lt_or_ge k 8 with h | h
        · exact h
        · have : M / 2 ^ k = 0 := Nat.div_eq_of_lt (Nat.lt_of_lt_of_le hM (Nat.pow_le_pow_right (n := 2) (by omega) h))
          rw [this] at hp; omega
      have hln := memTo_length M k
      cases hbit : M.testBit k
      · have hb1 : (bits .and .i64 ((M : Int) / 2 ^ k) 1 == 1) = false := (bit_fact hM).trans hbit
        have E : Hid (memTo M (k + 1) = memTo M k) := by show _ = _; rw [memTo, if_neg]; simp [hbit]
        clear hbit hdc hp
        go_wp2
        go_roundw
        case rel => exact ⟨k + 1, by omega, by go_num, by rw [E.out]; exact hown, hg⟩
        case measure => simp [intOf]; omega
      · have hb1 : (bits .and .i64 ((M : Int) / 2 ^ k) 1 == 1) = true := (bit_fact hM).trans hbit
        have E : Hid (memTo M (k + 1) = memTo M k ++ [(k : Int)]) := by show _ = _; rw [memTo, if_pos hbit]
        have hz := gr_le hg
        have hz' : w.heap.size ≤ wr.heap.size + 1 := by omega
        clear hbit hdc hp
        go_wp2_with (at_builtin; refine wpList_append_own _ rfl _ _ 40 rfl w.heap.size 3 i0 (.int .i64 0) 1 8 Try.underlying40 hi hz0 hz1 hz2 rfl (by decide) _ _ _ rfl (hown.alloc _) ⟨wr.heap.size, 0, none⟩ 1 1 [.int .i64 k] rfl rfl (new_one _ _ _) (one_int _) (by unfold maxLen; omega) (by omega) (by simpa using hz') ?_)
        intro v' w4 hown' hgrow _
        have hg4 := gr_trans (gr_alloc hg (.cells #[Value.int .i64 k] 3)) hgrow (fun j e => .inr (hown.lt j e).1)
        have HO := hid hown'
        have HG := hid hg4
        clear hown' hgrow hg4 hown hg hz hz'
        go_wp2
        go_roundw
        case rel => exact ⟨k + 1, by omega, by go_num, by rw [E.out, List.length_append, List.map_append]; exact HO.out, HG.out⟩
        case measure => simp [intOf]; omega
    · have hp' : ¬ 0 < (M : Int) / 2 ^ k := by rw [hdc]; exact fun h => hp (Int.ofNat_lt.1 h)
      have E : Hid (memTo M 8 = memTo M k) := memTo_rest (Nat.eq_zero_of_not_pos hp) 8 hk
      clear hp hdc
      go_wp2
      go_ret
      exact ⟨_, rfl, ⟨memTo_i64 M 8 (by omega), by rw [E.out]; exact hown⟩, hg⟩
theorem reachedBy_any {u : Value} {ts : List Tri} (n a : Nat) (w : World) (hu : Trips w u ts) (hb : netB n ts = true) (ha : a < n) :
    Calls Try.prog 16 #[.agg #[.int .i64 n, u], .int .i64 a] w (RetI 3 w (memTo (reachM ts 1 a n) 8)) := by
  have HU := hid hu
  obtain ⟨_, sa, cap, rfl, _, _, hat⟩ := hu
  obtain ⟨⟨hn2, hn8⟩, -, -⟩ := netB_parts hb
  have HB := hid hb
  have P1 : Hid ((netB n ts && inB (a : Int) 0 ((n : Int) - 1)) = true) := by show _ = _; rw [hb, inB_mk (by omega)]; rfl
  have HM := hid (reach_lt (wd := 1) hb ha)
  clear hat hb
  go_enter Try.func16, Try.ntmps16
  go_wp2_with fail
  refine (isPlace_any _ _ _ (HU.out.on (gr_alloc (gr_refl _ _) _))).mono ?_
  rw [P1.out]
  rintro e w1 ⟨rfl, g1⟩
  have k0 := (gr_cell g1 w.heap.size 0 (by simp)).trans (by simp [go_sem] : _ = some (Value.int .i64 (n : Int)))
  have k1 := (gr_cell g1 w.heap.size 1 (by simp)).trans (by simp [go_sem] : _ = some (Value.slice sa ts.length cap))
  have HG1 := hid (gr_then (gr_alloc (gr_refl w none) _) g1)
  clear g1
  go_wp2_with fail
  refine (reach_any n a 1 _ (HU.out.on HG1.out) HB.out ha).mono ?_
  rintro e w2 ⟨rfl, g2⟩
  have HG2 := hid (gr_then HG1.out g2)
  clear g2 k0 k1
  go_wp2_with fail
  refine (membersOf_any _ _ HM.out).mono ?_
  rintro e w3 ⟨q, rfl, oq, g3⟩
  have HQ := hid (oq.mono (gr_le HG2.out))
  have HG3 := hid (gr_then HG2.out g3)
  clear oq g3
  go_wp2
  go_ret
  exact ⟨_, rfl, HQ.out, HG3.out⟩
end Go.Proofs.Ytbkpphcmdjllnaa
