/- The helpers of the laws over slices of numbers: copied, compared, marked, asked for their marks. -/
import Derived.Test.YtmnfainepmnpeaaRows
import Derived.Test.YtmnfainepmnpeaaBase
namespace Go.Proofs.Ytmnfainepmnpeaa
open Go.RowKit

theorem info_int : (Try.prog.info? 3).map (fun i => (i.zero, i.size, i.bytes)) = some (some (.int .i64 0), 1, 8) := by kernel_rfl

theorem toIntS_any {v : Value} {xs : List Int} (w : World) (h : Ints w v xs) (hs : xs.length ≤ 1048576) :
    Calls Try.prog 54 #[v] w (RetI 3 w xs) := by
  obtain ⟨hbd, a, cap, rfl, hcap, hmax, hat⟩ := h
  obtain ⟨i0, hi, hz0, hz1, hz2⟩ := info_parts info_int
  go_enter Try.func54, Try.ntmps54
  go_wp2_with (at_make; refine wpList_make_full _ rfl _ _ 22 rfl w.heap.size 3 i0 (.int .i64 0) 1 Try.underlying22 hi hz0 hz1 .i64 .i64 xs.length xs.length xs.length rfl rfl rfl rfl ?c1 ?c2 ?c3 ?_)
  case c1 => rw [hz2]; omega
  case c2 => unfold maxLen; omega
  case c3 => exact Nat.le_refl _
  intro w1 hown hg1
  have HO : w1.ownsRow w.heap.size 3 1 (.slice (some ⟨w.heap.size, 0, none⟩) xs.length xs.length) xs.length (copyTo xs 0) := by
    rw [copyTo_zero, ← toList_madeCells_one]; simpa using hown
  have hg1' : Gr w w1 none := hg1
  clear hown hg1 hi hz0 hz1 hz2
  go_wp2
  go_loopw [4] (fun i wr => ∃ k : Nat, k ≤ xs.length ∧ i = .int .i64 k ∧ wr.ownsRow w.heap.size 3 1 (.slice (some ⟨w.heap.size, 0, none⟩) xs.length xs.length) xs.length (copyTo xs k) ∧ Gr w wr none) (fun i _ => xs.length - (intOf i).toNat)
  case atStart => exact ⟨0, Nat.zero_le _, rfl, HO, hg1'⟩
  case round =>
    obtain ⟨k, hk, rfl, hown, hg⟩ := hrel
    clear HO hg1'
    by_cases hlt : k < xs.length
    · obtain ⟨b, off, rfl, hc⟩ : ∃ b off, a = some ⟨b, off, none⟩ ∧ IntsAt w b off xs := by
        rcases hat with h0 | h0
        · subst h0; simp at hlt
        · exact h0
      have hcell := (hc.kept hg (by simp)) k hlt
      obtain ⟨c0, hc0⟩ := copyTo_get xs k k hlt
      have hdst := (hown.cellAt k (by omega)).trans hc0
      have hfr := hown.frozenAt k
      have hst := hown.stored k (.int .i64 (gi xs k))
      rw [copyTo_set] at hst
      have hgs := gr_set hg (p := ⟨w.heap.size, k, none⟩) (.inr (Nat.le_refl _)) (.int .i64 (gi xs k))
      clear hc hc0 hown hat
      have HS := hid hst.1
      clear hst
      go_wp2
      go_roundw
      case rel => exact ⟨k + 1, by omega, by go_num, HS.out, hgs⟩
      case measure => simp [intOf]; omega
    · have hkl : k = xs.length := by omega
      have HK := hid hkl
      clear hkl hat
      go_wp2
      go_ret
      refine ⟨_, rfl, ⟨hbd, ?_⟩, hg⟩
      have e := copyTo_all xs
      rw [HK.out] at hown
      rw [← e]
      exact hown
theorem eqIntS_any {u v : Value} {xs ys : List Int} (w : World) (hu : Ints w u xs) (hv : Ints w v ys) :
    Calls Try.prog 45 #[u, v] w fun e w' => e = .returned (.bool (decide (xs = ys))) ∧ Gr w w' none := by
  obtain ⟨_, a, cap, rfl, hcap, hmax, hat⟩ := hu
  obtain ⟨_, a', cap', rfl, hcap', hmax', hat'⟩ := hv
  unfold maxLen at hmax hmax'
  by_cases hl : xs.length = ys.length
  · have HL := hid hl
    have hlb : ((xs.length : Int) != (ys.length : Int)) = false := by rw [hl]; simp
    clear hl
    go_enter Try.func45, Try.ntmps45
    go_wp2
    go_loopw [5] (fun i wr => ∃ k : Nat, k ≤ xs.length ∧ i = .int .i64 k ∧ EqTo xs ys k ∧ Gr w wr none) (fun i _ => xs.length - (intOf i).toNat)
    case atStart => exact ⟨0, Nat.zero_le _, rfl, eqTo_zero _ _, gr_refl _ _⟩
    case round =>
      obtain ⟨k, hk, rfl, heq, hg⟩ := hrel
      have HE := hid heq
      clear heq
      by_cases hlt : k < xs.length
      · have hlt' : k < ys.length := by have := HL.out; omega
        obtain ⟨b, off, rfl, hc⟩ : ∃ b off, a = some ⟨b, off, none⟩ ∧ IntsAt w b off xs := by
          rcases hat with h0 | h0
          · subst h0; simp at hlt
          · exact h0
        obtain ⟨b', off', rfl, hc'⟩ : ∃ b off, a' = some ⟨b, off, none⟩ ∧ IntsAt w b off ys := by
          rcases hat' with h0 | h0
          · subst h0; simp at hlt'
          · exact h0
        have hcell := (hc.kept hg (by simp)) k hlt
        have hcell' := (hc'.kept hg (by simp)) k hlt'
        have h1 : (k : Int) < (xs.length : Int) := by omega
        have h2 : (k : Int) < (ys.length : Int) := by omega
        have h3 : (0 : Int) ≤ (k : Int) := by omega
        clear hc hc' hat hat'
        go_wp2_with fail
        go_quiet (fail)
        by_cases hq : gi xs k = gi ys k
        · have hqb : (gi xs k != gi ys k) = false := by rw [hq]; simp
          have HQ := hid hq
          clear hq
          go_wp2
          go_roundw
          case rel => exact ⟨k + 1, by omega, by go_num, eqTo_succ HE.out HQ.out, gr_drewN hg _⟩
          case measure => simp [intOf]; omega
        · have hqb : (gi xs k != gi ys k) = true := by simpa using hq
          have HQ := hid hq
          clear hq
          go_wp2
          go_ret
          exact ⟨ret_bool (eq_no HQ.out).symm, gr_drewN hg _⟩
      · have hkl : k = xs.length := by omega
        subst hkl
        clear hat hat'
        go_wp2
        go_ret
        exact ⟨ret_bool (eqTo_all HL.out HE.out).symm, hg⟩
  · have HL := hid hl
    have hlb : ((xs.length : Int) != (ys.length : Int)) = true := by simp; omega
    clear hl
    go_enter Try.func45, Try.ntmps45
    go_wp2
    go_ret
    exact ⟨ret_bool (eq_no_len HL.out).symm, gr_refl _ _⟩
theorem markIntS_any {B : Nat} {v : Value} {xs : List Int} (k0 : Int) (w : World) (h : OwnI 3 w B v xs) (hs : xs.length ≤ 1048576) (h0 : 0 ≤ k0) (h1 : k0 ≤ 100000000) :
    Calls Try.prog 46 #[v, .int .i64 k0] w fun e w' => e = .returned (.int .i64 (k0 + xs.length)) ∧ OwnI 3 w' B v (marks k0 xs.length) ∧ Gr w w' v.ownBlock := by
  obtain ⟨hbd, hown0⟩ := h
  have hbm := marks_i64 (n := xs.length) h0 h1 hs
  by_cases hx0 : xs.length = 0
  · have hx : xs = [] := by simpa using hx0
    subst hx
    have hv : ∃ a cap, v = .slice a 0 cap := by
      rcases Go.Joins.ownsRow_forms hown0 with ⟨rfl, _⟩ | ⟨g, cap, rfl⟩ <;> exact ⟨_, _, rfl⟩
    obtain ⟨a, cap, rfl⟩ := hv
    go_enter Try.func46, Try.ntmps46
    go_wp2_with fail
    refine Go.wp_loop_rounds 1 ?_
    rw [Go.rounds_succ]
    go_wp2
    go_ret
    exact ⟨ret_int (by simp), ⟨by simp [marks], hown0⟩, gr_refl _ _⟩
  · have hv : ∃ g cap, v = .slice (some ⟨g, 0, none⟩) xs.length cap := by
      rcases Go.Joins.ownsRow_forms hown0 with ⟨rfl, hn⟩ | ⟨g, cap, rfl⟩
      · exact absurd hn hx0
      · exact ⟨_, _, rfl⟩
    obtain ⟨g, cap, rfl⟩ := hv
    have hgB := (hown0.lt g rfl).2
    rw [← markTo_zero xs k0] at hown0
    have HO := hid hown0
    clear hown0
    go_enter Try.func46, Try.ntmps46
    go_wp2
    go_loopw [1, 5] (fun m i wr => ∃ k : Nat, k ≤ xs.length ∧ i = .int .i64 k ∧ m = .int .i64 (k0 + k) ∧ wr.ownsRow B 3 1 (.slice (some ⟨g, 0, none⟩) xs.length cap) xs.length (markTo xs k0 k) ∧ Gr w wr (some g)) (fun _ i _ => xs.length - (intOf i).toNat)
    case atStart => exact ⟨0, Nat.zero_le _, rfl, by go_num, HO.out, gr_refl _ _⟩
    case round =>
      obtain ⟨k, hk, rfl, rfl, hown, hg⟩ := hrel
      clear HO
      by_cases hlt : k < xs.length
      · obtain ⟨c0, hc0⟩ := markTo_get xs k0 k k hlt
        have hdst := (hown.cellAt k (by omega)).trans hc0
        have hfr := hown.frozenAt k
        have hst := hown.stored k (.int .i64 (k0 + k))
        rw [markTo_set] at hst
        have hgs := gr_set hg (p := ⟨g, k, none⟩) (.inl rfl) (.int .i64 (k0 + k))
        have HS := hid hst.1
        clear hst hc0 hown
        go_wp2
        go_roundw
        case rel => exact ⟨k + 1, by omega, by go_num, by go_num, HS.out, hgs⟩
        case measure => simp [intOf]; omega
      · have hkl : k = xs.length := by omega
        subst hkl
        rw [markTo_all] at hown
        go_wp2
        go_ret
        exact ⟨rfl, ⟨hbm, by simpa using hown⟩, hg⟩
theorem heldIntS_any {v : Value} (n : Nat) (k0 : Int) (w : World) (h : Ints w v (marks k0 n)) (hs : n ≤ 1048576) (h0 : 0 ≤ k0) (h1 : k0 ≤ 100000000) :
    Calls Try.prog 47 #[v, .int .i64 k0] w fun e w' => e = .returned (.int .i64 (k0 + n)) ∧ w = w' := by
  obtain ⟨_, a, cap, rfl, hcap, hmax, hat⟩ := h
  simp only [marks_length] at hcap hat ⊢
  go_enter Try.func47, Try.ntmps47
  go_wp2
  go_loop [1, 5] (fun m i => ∃ k : Nat, k ≤ n ∧ i = .int .i64 k ∧ m = .int .i64 (k0 + k)) (fun _ i => n - (intOf i).toNat)
  case atStart => exact ⟨0, Nat.zero_le _, rfl, by go_num⟩
  case round =>
    obtain ⟨k, hk, rfl, rfl⟩ := hrel
    by_cases hlt : k < n
    · obtain ⟨b, off, rfl, hc⟩ : ∃ b off, a = some ⟨b, off, none⟩ ∧ IntsAt w b off (marks k0 n) := by
        rcases hat with h0 | h0
        · have := congrArg List.length h0; simp at this; omega
        · exact h0
      have hcell := hc k (by simpa using hlt)
      rw [gi_marks hlt] at hcell
      clear hc hat
      go_wp2
      go_round
      case rel => exact ⟨k + 1, by omega, by go_num, by go_num⟩
      case measure => simp [intOf]; omega
    · have hkl : k = n := by omega
      subst hkl
      clear hat
      go_wp2
      go_ret
      exact ⟨rfl, rfl⟩
end Go.Proofs.Ytmnfainepmnpeaa
