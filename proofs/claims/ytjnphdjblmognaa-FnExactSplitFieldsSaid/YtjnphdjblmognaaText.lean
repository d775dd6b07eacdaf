/- The helpers of the laws over slices of strings: compared, marked, asked for their marks. -/
import Derived.Test.YtjnphdjblmognaaVals
import Derived.Test.YtjnphdjblmognaaHex
import Derived.Test.YtjnphdjblmognaaLex
namespace Go.Proofs.Ytjnphdjblmognaa
open Go.RowKit

theorem str_ne {a b : ByteArray} (h : ¬ a = b) : (a.toList == b.toList) = false := by
  rw [ByteArray.toList_eq, ByteArray.toList_eq]
  cases e : a.data.toList == b.data.toList
  · rfl
  · exact absurd (Go.WideShapes.bytes_inj (by simpa using e)) h
theorem eqStringS_any {u v : Value} {xs ys : List ByteArray} (w : World) (hu : Strs w u xs) (hv : Strs w v ys) :
    Calls Try.prog 19 #[u, v] w fun e w' => e = .returned (.bool (decide (xs = ys))) ∧ Gr w w' none := by
  obtain ⟨a, cap, rfl, hcap, hmax, hat⟩ := hu
  obtain ⟨a', cap', rfl, hcap', hmax', hat'⟩ := hv
  unfold maxLen at hmax hmax'
  by_cases hl : xs.length = ys.length
  · have HL := hid hl
    have hlb : ((xs.length : Int) != (ys.length : Int)) = false := by rw [hl]; simp
    clear hl
    go_enter Try.func19, Try.ntmps19
    go_wp2
    go_loopw [5] (fun i wr => ∃ k : Nat, k ≤ xs.length ∧ i = .int .i64 k ∧ EqSTo xs ys k ∧ Gr w wr none) (fun i _ => xs.length - (intOf i).toNat)
    case atStart => exact ⟨0, Nat.zero_le _, rfl, eqSTo_zero _ _, gr_refl _ _⟩
    case round =>
      obtain ⟨k, hk, rfl, heq, hg⟩ := hrel
      have HE := hid heq
      clear heq
      by_cases hlt : k < xs.length
      · have hlt' : k < ys.length := by have := HL.out; omega
        obtain ⟨b, off, rfl, hc⟩ : ∃ b off, a = some ⟨b, off, none⟩ ∧ StrsAt w b off xs := by
          rcases hat with h0 | h0
          · subst h0; simp at hlt
          · exact h0
        obtain ⟨b', off', rfl, hc'⟩ : ∃ b off, a' = some ⟨b, off, none⟩ ∧ StrsAt w b off ys := by
          rcases hat' with h0 | h0
          · subst h0; simp at hlt'
          · exact h0
        have hcell := (hc.kept hg (by simp)) k hlt
        have hcell' := (hc'.kept hg (by simp)) k hlt'
        have h1 : (k : Int) < (xs.length : Int) := by omega
        have h2 : (k : Int) < (ys.length : Int) := by omega
        have h3 : (0 : Int) ≤ (k : Int) := by omega
        clear hc hc' hat hat'
        go_wp2_with fail
        by_cases hq : gs xs k = gs ys k
        · have HQ := hid hq
          rw [← hq] at hcell'
          generalize hX : gs xs k = X at *
          have HX := hid hX
          clear hq hX
          go_quiet (fail)
          go_wp2
          go_roundw
          case rel => exact ⟨k + 1, by omega, by go_num, eqSTo_succ HE.out (by rw [HX.out]; exact HQ.out), gr_drewN hg _⟩
          case measure => simp [intOf]; omega
        · have HQ := hid hq
          have hqb := str_ne hq
          clear hq
          go_quiet (fail)
          go_wp2
          go_ret
          exact ⟨ret_bool (eqS_no HQ.out).symm, gr_drewN hg _⟩
      · have hkl : k = xs.length := by omega
        subst hkl
        clear hat hat'
        go_wp2
        go_ret
        exact ⟨ret_bool (eqSTo_all HL.out HE.out).symm, hg⟩
  · have HL := hid hl
    have hlb : ((xs.length : Int) != (ys.length : Int)) = true := by simp; omega
    clear hl
    go_enter Try.func19, Try.ntmps19
    go_wp2
    go_ret
    exact ⟨ret_bool (eqS_no_len HL.out).symm, gr_refl _ _⟩
/-- One figure, as a text. -/
def chr1 (d : Int) : ByteArray := strOfNums [48 + d]
def mtF : Nat → Nat → ByteArray → ByteArray
  | 0, _, s => s
  | f + 1, m, s => if m = 0 then s else mtF f (m / 10) (chr1 ((m : Int) % 10) ++ s)
def markT (k : Int) : ByteArray := (⟨#[109]⟩ : ByteArray) ++ mtF k.toNat k.toNat ByteArray.empty
theorem markText_any (k : Int) (w : World) (h1 : 1 ≤ k) (h2 : k ≤ 1000000000) :
    Calls Try.prog 28 #[.int .i64 k] w fun e w' => e = .returned (.string (markT k)) ∧ Gr w w' none := by
  obtain ⟨n, rfl⟩ := Int.eq_ofNat_of_zero_le (show 0 ≤ k by omega)
  rw [show markT (n : Int) = (⟨#[109]⟩ : ByteArray) ++ mtF n n ByteArray.empty from by simp [markT]]
  generalize hT : mtF n n ByteArray.empty = T
  go_enter Try.func28, Try.ntmps28
  go_wp2
  go_loopw [0, 3] (fun i s wr => ∃ (f m : Nat) (t : ByteArray), i = .int .i64 m ∧ s = .string t ∧ m ≤ n ∧ m ≤ f ∧ t.size + f ≤ n ∧ mtF f m t = T ∧ Gr w wr none) (fun i _ _ => (intOf i).toNat)
  case atStart => exact ⟨n, n, ByteArray.empty, rfl, rfl, Nat.le_refl _, Nat.le_refl _, by simp, hT, gr_refl _ _⟩
  case round =>
    obtain ⟨f, m, t, rfl, rfl, hm, hf, hz, ht, hg⟩ := hrel
    have HT := hid ht
    clear ht hT
    by_cases hm0 : m = 0
    · have e : T = t := by have := HT.out; subst hm0; cases f <;> simp [mtF] at this <;> exact this.symm
      subst e
      have h0 : ¬ (0 : Int) < (m : Int) := by omega
      have h0' : decide ((0 : Int) < (m : Int)) = false := by simpa using h0
      clear hm0 hf
      go_wp2
      go_ret
      exact ⟨rfl, hg⟩
    · obtain ⟨f, rfl⟩ : ∃ f', f = f' + 1 := ⟨f - 1, by omega⟩
      have h0 : (0 : Int) < (m : Int) := by omega
      have hd := hid (World.ownsRow_lit (base := wr.heap.size) (size := 1) (e := 5) wr ([Value.int .u8 (48 + (m : Int) % 10)]).toArray 1 (Nat.le_refl _) (by unfold maxLen; omega) (by simp))
      have hcv := str_own (xs := [48 + (m : Int) % 10]) (by simpa using hd.out) rfl
      have HT2 : Hid (mtF f (m / 10) (chr1 ((m : Int) % 10) ++ t) = T) := by have := HT.out; simp only [mtF, hm0, if_false] at this; exact this
      have hmod : IntKind.u8.wrap (48 + (m : Int) % 10) = 48 + (m : Int) % 10 := by simp [IntKind.wrap, IntKind.bits, IntKind.signed]; omega
      have hss : (strOfNums [48 + (m : Int) % 10]).size = 1 := by simp [strOfNums_size]
      have HSZ : Hid ((chr1 ((m : Int) % 10) ++ t).size + f ≤ n) := by show _ ≤ _; rw [ByteArray.size_append, chr1, hss]; omega
      clear hm0
      go_wp2
      go_roundw
      case rel => exact ⟨f, m / 10, _, by go_num, rfl, by omega, by omega, HSZ.out, HT2.out, gr_alloc hg _⟩
      case measure => simp [intOf]; omega
theorem info_str : (Try.prog.info? 9).map (fun i => (i.zero, i.size, i.bytes)) = some (some (.string ByteArray.empty), 1, 16) := by kernel_rfl
theorem markStringS_any {B : Nat} {v : Value} {ss : List ByteArray} (k0 : Int) (w : World) (h : OwnS 9 w B v ss) (hs : ss.length ≤ 1048576) (h0 : 1 ≤ k0) (h1 : k0 ≤ 100000000) :
    Calls Try.prog 20 #[v, .int .i64 k0] w fun e w' => e = .returned (.int .i64 (k0 + ss.length)) ∧ OwnS 9 w' B v (marksS markT k0 ss.length) ∧ Gr w w' v.ownBlock := by
  have hown0 : w.ownsRow B 9 1 v ss.length (ss.map Value.string) := h
  clear h
  by_cases hx0 : ss.length = 0
  · have hx : ss = [] := by simpa using hx0
    subst hx
    have hv : ∃ a cap, v = .slice a 0 cap := by
      rcases Go.Joins.ownsRow_forms hown0 with ⟨rfl, _⟩ | ⟨g, cap, rfl⟩ <;> exact ⟨_, _, rfl⟩
    obtain ⟨a, cap, rfl⟩ := hv
    go_enter Try.func20, Try.ntmps20
    go_wp2_with fail
    refine Go.wp_loop_rounds 1 ?_
    rw [Go.rounds_succ]
    go_wp2
    go_ret
    exact ⟨ret_int (by simp), hown0, gr_refl _ _⟩
  · have hv : ∃ g cap, v = .slice (some ⟨g, 0, none⟩) ss.length cap := by
      rcases Go.Joins.ownsRow_forms hown0 with ⟨rfl, hn⟩ | ⟨g, cap, rfl⟩
      · exact absurd hn hx0
      · exact ⟨_, _, rfl⟩
    obtain ⟨g, cap, rfl⟩ := hv
    have hgB := (hown0.lt g rfl).2
    rw [← markSTo_zero markT ss k0] at hown0
    have HO := hid hown0
    clear hown0
    go_enter Try.func20, Try.ntmps20
    go_wp2
    go_loopw [1, 5] (fun m i wr => ∃ k : Nat, k ≤ ss.length ∧ i = .int .i64 k ∧ m = .int .i64 (k0 + k) ∧ wr.ownsRow B 9 1 (.slice (some ⟨g, 0, none⟩) ss.length cap) ss.length ((markSTo markT ss k0 k).map Value.string) ∧ Gr w wr (some g)) (fun _ i _ => ss.length - (intOf i).toNat)
    case atStart => exact ⟨0, Nat.zero_le _, rfl, by go_num, by have := HO.out; rw [markSTo_zero]; rw [markSTo_zero] at this; simpa using this, gr_refl _ _⟩
    case round =>
      obtain ⟨k, hk, rfl, rfl, hown, hg⟩ := hrel
      clear HO
      by_cases hlt : k < ss.length
      · go_wp2_with fail
        refine (markText_any _ _ (by omega) (by omega)).mono ?_
        rintro e w1 ⟨rfl, g1⟩
        have hown1 := hown.kept g1 (.inr (by simp [Value.ownBlock]))
        obtain ⟨c0, hc0⟩ := markSTo_get markT ss k0 k k hlt
        have hdst := (hown1.cellAt k (by omega)).trans hc0
        have hfr := hown1.frozenAt k
        have hst := hown1.stored k (.string (markT (k0 + k)))
        rw [markSTo_set] at hst
        have hgs := gr_set (gr_then hg g1) (p := ⟨g, k, none⟩) (.inl rfl) (.string (markT (k0 + k)))
        have HS := hid hst.1
        clear hst hc0 hown hown1 hg g1
        go_wp2
        go_roundw
        case rel => exact ⟨k + 1, by omega, by go_num, by go_num, HS.out, hgs⟩
        case measure => simp [intOf]; omega
      · have hkl : k = ss.length := by omega
        subst hkl
        rw [markSTo_all] at hown
        go_wp2
        go_ret
        exact ⟨rfl, by simpa [OwnS] using hown, hg⟩
theorem heldStringS_any {v : Value} (n : Nat) (k0 : Int) (w : World) (h : Strs w v (marksS markT k0 n)) (hs : n ≤ 1048576) (h0 : 1 ≤ k0) (h1 : k0 ≤ 100000000) :
    Calls Try.prog 21 #[v, .int .i64 k0] w fun e w' => e = .returned (.int .i64 (k0 + n)) ∧ Gr w w' none := by
  obtain ⟨a, cap, rfl, hcap, hmax, hat⟩ := h
  simp only [marksS_length] at hcap hat ⊢
  unfold maxLen at hmax
  go_enter Try.func21, Try.ntmps21
  go_wp2
  go_loopw [1, 5] (fun m i wr => ∃ k : Nat, k ≤ n ∧ i = .int .i64 k ∧ m = .int .i64 (k0 + k) ∧ Gr w wr none) (fun _ i _ => n - (intOf i).toNat)
  case atStart => exact ⟨0, Nat.zero_le _, rfl, by go_num, gr_refl _ _⟩
  case round =>
    obtain ⟨k, hk, rfl, rfl, hg⟩ := hrel
    by_cases hlt : k < n
    · obtain ⟨b, off, rfl, hc⟩ : ∃ b off, a = some ⟨b, off, none⟩ ∧ StrsAt w b off (marksS markT k0 n) := by
        rcases hat with h0 | h0
        · have := congrArg List.length h0; simp at this; omega
        · exact h0
      have hcell := hc.kept hg (by simp) k (by simpa using hlt)
      rw [gs_marksS hlt] at hcell
      have hcs := fun s : Gw wr => World.grownBy.cell s.h hcell (by simp)
      have HM : Hid (∀ W, Calls Try.prog 28 #[.int .i64 (k0 + k)] W fun e w' => e = .returned (.string (markT (k0 + k))) ∧ Gr W w' none) := fun W => markText_any _ W (by omega) (by omega)
      have h1' : (k : Int) < (n : Int) := by omega
      have h3 : (0 : Int) ≤ (k : Int) := by omega
      have HG := hid hg
      clear hc hat hcell hg
      go_wp2_with fail
      refine region_gw (w0 := wr) (by kernel_rfl) (by kernel_rfl) (by kernel_rfl) ?_
      repeat (first | go_big_quiet_skip | (go_big_quiet_want; go_big_quiet_op; first | go_big_quiet_on | (apply Exists.intro; refine ⟨fun s => ?_, ?_⟩; (focus (first | (with_reducible exact gw_call s (HM.out s.w)))); go_big_quiet_on)))
      refine wpQuiet_nil ?_
      rintro _ ⟨⟨wq, gq⟩, rfl⟩
      try dsimp only
      go_wp2
      go_roundw
      case rel => exact ⟨k + 1, by omega, by go_num, by go_num, gr_then HG.out gq⟩
      case measure => simp [intOf]; omega
    · have hkl : k = n := by omega
      subst hkl
      clear hat
      go_wp2
      go_ret
      exact ⟨rfl, hg⟩
end Go.Proofs.Ytjnphdjblmognaa
