/- The helpers of the law over a drawn chain. -/
import Derived.Test.YtbmgmolnknnaiaaDrawCh2
import Derived.Test.YtbmgmolnknnaiaaPin2
import Derived.Test.YtbmgmolnknnaiaaRoom1
import Derived.Test.YtbmgmolnknnaiaaLex
import Derived.Test.YtbmgmolnknnaiaaBoxes
namespace Go.Proofs.Ytbmgmolnknnaiaa
open Go.RowKit

/-- A literal list, as the slice that it makes. -/
theorem ints_lit' (w : World) (E : TypeId) (xs : List Int) (hb : ∀ x ∈ xs, I64 x) (hl : xs.length ≤ 1000) :
    Ints (w.alloc (.cells (xs.map (Value.int .i64)).toArray E)) (.slice (some ⟨w.heap.size, 0, none⟩) xs.length xs.length) xs := by
  have h := World.ownsRow_lit (base := w.heap.size) (size := 1) (e := E) w (xs.map (Value.int .i64)).toArray xs.length (Nat.le_refl _) (by unfold maxLen; omega) (by simp)
  exact OwnI.ints (E := E) (B := w.heap.size) ⟨hb, by simpa using h⟩
theorem sameInts_any {u v : Value} {xs ys : List Int} (w : World) (hu : Ints w u xs) (hv : Ints w v ys) :
    Calls Try.prog 26 #[u, v] w fun e w' => e = .returned (.bool (decide (xs = ys))) ∧ Gr w w' none := by
  obtain ⟨_, a, cap, rfl, hcap, hmax, hat⟩ := hu
  obtain ⟨_, a', cap', rfl, hcap', hmax', hat'⟩ := hv
  unfold maxLen at hmax hmax'
  by_cases hl : xs.length = ys.length
  · have HL := hid hl
    have hlb : ((xs.length : Int) != (ys.length : Int)) = false := by rw [hl]; simp
    clear hl
    go_enter Try.func26, Try.ntmps26
    go_wp2
    go_loopw [5] (fun i wr => ∃ k : Nat, k ≤ xs.length ∧ i = .int .i64 k ∧ EqTo xs ys k ∧ Gr w wr none) (fun i _ => xs.length - (intOf i).toNat)
    case atStart => exact ⟨0, Nat.zero_le _, rfl, eqTo_zero _ _, gr_refl _ _⟩
    case round =>
      obtain ⟨k, hk, rfl, heq, hg⟩ := hrel
      have HE := hid heq
      clear heq
      by_cases hlt : k < xs.length
      · have hlt' : k < ys.length := by have := HL.out; omega
        obtain ⟨b, off, rfl, hc⟩ : ∃ b off, a = some ⟨b, off, none⟩ ∧ IntsAt w b off xs := by
          rcases hat with h0 | h0
          · subst h0; simp at hlt
          · exact h0
        obtain ⟨b', off', rfl, hc'⟩ : ∃ b off, a' = some ⟨b, off, none⟩ ∧ IntsAt w b off ys := by
          rcases hat' with h0 | h0
          · subst h0; simp at hlt'
          · exact h0
        have hcell := (hc.kept hg (by simp)) k hlt
        have hcell' := (hc'.kept hg (by simp)) k hlt'
        have h1 : (k : Int) < (xs.length : Int) := by omega
        have h2 : (k : Int) < (ys.length : Int) := by omega
        have h3 : (0 : Int) ≤ (k : Int) := by omega
        clear hc hc' hat hat'
        go_wp2_with fail
        go_quiet (fail)
        by_cases hq : gi xs k = gi ys k
        · have hqb : (gi xs k != gi ys k) = false := by rw [hq]; simp
          have HQ := hid hq
          clear hq
          go_wp2
          go_roundw
          case rel => exact ⟨k + 1, by omega, by go_num, eqTo_succ HE.out HQ.out, gr_drewN hg _⟩
          case measure => simp [intOf]; omega
        · have hqb : (gi xs k != gi ys k) = true := by simpa using hq
          have HQ := hid hq
          clear hq
          go_wp2
          go_ret
          exact ⟨ret_bool (eq_no HQ.out).symm, gr_drewN hg _⟩
      · have hkl : k = xs.length := by omega
        subst hkl
        clear hat hat'
        go_wp2
        go_ret
        exact ⟨ret_bool (eqTo_all HL.out HE.out).symm, hg⟩
  · have HL := hid hl
    have hlb : ((xs.length : Int) != (ys.length : Int)) = true := by simp; omega
    clear hl
    go_enter Try.func26, Try.ntmps26
    go_wp2
    go_ret
    exact ⟨ret_bool (eq_no_len HL.out).symm, gr_refl _ _⟩
def hasB (ys : List Int) (k : Int) : Bool := ys.any fun x => x == k
theorem hasB_yes {ys : List Int} {k : Int} {i : Nat} (hi : i < ys.length) (h : gi ys i = k) : hasB ys k = true := by
  unfold hasB
  rw [List.any_eq_true]
  exact ⟨_, gi_mem hi, by rw [gi_lt hi] at h; simp [gi_lt hi, h]⟩
theorem hasB_no {ys : List Int} {k : Int} (h : ∀ i, i < ys.length → gi ys i ≠ k) : hasB ys k = false := by
  unfold hasB
  rw [List.any_eq_false]
  intro x hx
  obtain ⟨i, hi, rfl⟩ := List.mem_iff_getElem.1 hx
  have := h i hi
  rw [gi_lt hi] at this
  simpa using this
theorem hasB_get {ys : List Int} {k : Int} (h : hasB ys k = false) : ∀ i, i < ys.length → gi ys i ≠ k := fun i hi e => by rw [hasB_yes hi e] at h; cases h
theorem has_any {u : Value} {ys : List Int} (k : Int) (w : World) (hu : Ints w u ys) :
    Calls Try.prog 23 #[u, .int .i64 k] w fun e w' => e = .returned (.bool (hasB ys k)) ∧ w = w' := by
  obtain ⟨_, a, cap, rfl, hcap, hmax, hat⟩ := hu
  unfold maxLen at hmax
  go_enter Try.func23, Try.ntmps23
  go_wp2
  go_loop [5] (fun i => ∃ j : Nat, j ≤ ys.length ∧ i = .int .i64 j ∧ ∀ i, i < j → gi ys i ≠ k) (fun i => ys.length - (intOf i).toNat)
  case atStart => exact ⟨0, Nat.zero_le _, rfl, fun i h => absurd h (Nat.not_lt_zero _)⟩
  case round =>
    obtain ⟨j, hj, rfl, hno⟩ := hrel
    have HNO := hid hno
    clear hno
    by_cases hlt : j < ys.length
    · obtain ⟨b, off, rfl, hc⟩ : ∃ b off, a = some ⟨b, off, none⟩ ∧ IntsAt w b off ys := by
        rcases hat with h0 | h0
        · subst h0; simp at hlt
        · exact h0
      have hcell := hc j hlt
      have h1 : (j : Int) < (ys.length : Int) := by omega
      clear hc hat
      by_cases hq : gi ys j = k
      · have hqb : (gi ys j == k) = true := by simpa using hq
        have HQ := hid (hasB_yes hlt hq)
        clear hq
        go_wp2
        go_ret
        exact ⟨ret_bool HQ.out.symm, rfl⟩
      · have hqb : (gi ys j == k) = false := by simpa using hq
        have HQ := hid hq
        clear hq
        go_wp2
        go_round
        case rel => exact ⟨j + 1, by omega, by go_num, fun i hi => by
          by_cases e : i = j
          · rw [e]; exact HQ.out
          · exact HNO.out i (by omega)⟩
        case measure => simp [intOf]; omega
    · have hkl : j = ys.length := by omega
      subst hkl
      clear hat
      go_wp2
      go_ret
      exact ⟨ret_bool (hasB_no HNO.out).symm, rfl⟩
/-- The byte that 'at' answers, one for all worlds behind. -/
theorem at_fix {v : Value} {n : Nat} (i : Int) (w : World) (h : BytesN w v n) (h0 : 0 ≤ i) (h1 : i ≤ 1000) : ∃ x : Int, 0 ≤ x ∧ x ≤ 255 ∧ ∀ W, Gr w W none → Calls Try.prog 12 #[v, .int .i64 i] W fun e w' => e = .returned (.int .i64 x) ∧ W = w' := by
  obtain ⟨a, cap, rfl, hcap, hmax, hat⟩ := h
  unfold maxLen at hmax
  by_cases hn : n = 0
  · subst hn
    clear hat
    refine ⟨0, by omega, by omega, fun W _ => ?_⟩
    go_enter Try.func12, Try.ntmps12
    go_wp2
    go_ret
    exact ⟨rfl, rfl⟩
  · have hn' : ((n : Int) == 0) = false := by simp; omega
    obtain ⟨b, off, rfl, hcs⟩ : ∃ b off, a = some ⟨b, off, none⟩ ∧ ∀ i, i < n → ∃ x : Int, 0 ≤ x ∧ x ≤ 255 ∧ w.cell? ⟨b, off + i, none⟩ = some (.int .u8 x) := by
      rcases hat with h0 | h0
      · omega
      · exact h0
    have m1 := Int.emod_nonneg (i * 5 + 1) (show (n : Int) ≠ 0 by omega)
    have m2 := Int.emod_lt_of_pos (i * 5 + 1) (show 0 < (n : Int) by omega)
    obtain ⟨y, y1, y2, hcy0⟩ := hcs ((i * 5 + 1) % (n : Int)).toNat (by omega)
    clear hcs hat
    have hn1 : 1 ≤ (n : Int) := by omega
    clear hn
    refine ⟨y, y1, y2, fun W hg => ?_⟩
    have hcy := cell_on hg hcy0
    clear hcy0 hg
    go_enter Try.func12, Try.ntmps12
    go_wp2
    go_ret
    exact ⟨rfl, rfl⟩
end Go.Proofs.Ytbmgmolnknnaiaa
