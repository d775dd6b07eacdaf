/- The helpers of the laws over slices of cisterns: copied, compared, counted. -/
import Derived.Test.YtbbacodhklanjaaCist2
import Derived.Test.YtbbacodhklanjaaPairs
import Derived.Deep.RegionHeld3
namespace Go.Proofs.Ytbbacodhklanjaa
open Go.RowKit

theorem info_cist : (Try.prog.info? 25).map (fun i => (i.zero, i.size, i.bytes)) = some (some (.agg #[.int .i64 0, .int .i64 0]), 2, 16) := by kernel_rfl
theorem toCisternS_any {v : Value} {ps : List (Int × Int)} (w : World) (h : Pairs w v ps) (hs : ps.length ≤ 1048576) :
    Calls Try.prog 65 #[v] w (RetP 25 w ps) := by
  obtain ⟨hbd, a, cap, rfl, hcap, hmax, hat⟩ := h
  obtain ⟨i0, hi, hz0, hz1, hz2⟩ := info_parts info_cist
  go_enter Try.func65, Try.ntmps65
  go_wp2_with (at_make; refine wpList_make_full _ rfl _ _ 50 rfl w.heap.size 25 i0 (.agg #[.int .i64 0, .int .i64 0]) 2 Try.underlying50 hi hz0 hz1 .i64 .i64 ps.length ps.length ps.length rfl rfl rfl rfl ?c1 ?c2 ?c3 ?_)
  case c1 => rw [hz2]; omega
  case c2 => unfold maxLen; omega
  case c3 => exact Nat.le_refl _
  intro w1 hown hg1
  have HO : w1.ownsRow w.heap.size 25 2 (.slice (some ⟨w.heap.size, 0, none⟩) ps.length ps.length) ps.length (pcells (pcopy ps 0)) := by
    rw [pcopy_zero]; exact hown
  have hg1' : Gr w w1 none := hg1
  have hlt1 : w.heap.size < w1.heap.size := (hown.lt w.heap.size rfl).2
  clear hown hg1 hi hz0 hz1 hz2
  go_wp2
  go_loopw [4] (fun i wr => ∃ k : Nat, k ≤ ps.length ∧ i = .int .i64 k ∧ wr.ownsRow w.heap.size 25 2 (.slice (some ⟨w.heap.size, 0, none⟩) ps.length ps.length) ps.length (pcells (pcopy ps k)) ∧ Gr w wr none) (fun i _ => ps.length - (intOf i).toNat)
  case atStart => exact ⟨0, Nat.zero_le _, rfl, HO, hg1'⟩
  case round =>
    obtain ⟨k, hk, rfl, hown, hg⟩ := hrel
    clear HO hg1' hlt1
    by_cases hlt : k < ps.length
    · obtain ⟨b, off, rfl, hc⟩ : ∃ b off, a = some ⟨b, off, none⟩ ∧ PairsAt w b off ps := by
        rcases hat with h0 | h0
        · subst h0; simp at hlt
        · exact h0
      obtain ⟨c1, c2⟩ := (hc.kept hg (by simp)) k hlt
      clear hc hat
      go_wp2_with fail
      refine (toCistern_any _ _ _).mono ?_
      rintro e w2 ⟨rfl, g2⟩
      have hown2 := hown.kept g2 (.inr (by simp [Value.ownBlock]))
      clear hown c1 c2
      obtain ⟨d0, d1, e0, e1⟩ := pcopy_get ps k k hlt
      have hd0 := (hown2.cellAt (k * 2) (by omega)).trans e0
      have hd1 := (hown2.cellAt (k * 2 + 1) (by omega)).trans e1
      have hf0 := hown2.frozenAt (k * 2)
      have hf1 := hown2.frozenAt (k * 2 + 1)
      have hst := (hown2.stored (k * 2) (.int .i64 (gp ps k).1)).1
      have hst2 := (hst.stored (k * 2 + 1) (.int .i64 (gp ps k).2)).1
      rw [pcells_set, show ((gp ps k).1, (gp ps k).2) = gp ps k from rfl, pcopy_set] at hst2
      have HS := hid hst2
      have hgs := gr_set (gr_set (gr_then hg g2) (p := ⟨w.heap.size, k * 2, none⟩) (.inr (Nat.le_refl _)) (.int .i64 (gp ps k).1)) (p := ⟨w.heap.size, k * 2 + 1, none⟩) (.inr (Nat.le_refl _)) (.int .i64 (gp ps k).2)
      have hd1' : (w2.setCell ⟨w.heap.size, k * 2, none⟩ (.int .i64 (gp ps k).1)).cell? ⟨w.heap.size, k * 2 + 1, none⟩ = some d1 := by
        rw [World.cell?_setCell_other]
        · exact hd1
        · intro e; simp at e
      clear hst hst2 hown2 e0 e1 hg g2
      go_wp2
      go_roundw
      case rel => exact ⟨k + 1, by omega, by go_num, HS.out, hgs⟩
      case measure => simp [intOf]; omega
    · have hkl : k = ps.length := by omega
      have HK := hid hkl
      clear hkl hat
      go_wp2
      go_ret
      refine ⟨_, rfl, ⟨hbd, ?_⟩, hg⟩
      have e := pcopy_all ps
      rw [HK.out, e] at hown
      exact hown
theorem szCisternS_any {v : Value} {ps : List (Int×Int)} (m : Int) (w : World) (h : Pairs w v ps) (h0 : 0 ≤ m) (h1 : m ≤ 1048576) :
    Calls Try.prog 63 #[v, .int .i64 m] w fun e w' => e = .returned (.int .i64 (if m - ps.length < 0 then -1 else m - ps.length)) ∧ Gr w w' none := by
  obtain ⟨_, a, cap, rfl, hcap, hmax, hat⟩ := h
  clear hat
  unfold maxLen at hmax
  by_cases hl : m - ps.length < 0
  · rw [if_pos hl]
    go_enter Try.func63, Try.ntmps63
    go_wp2
    go_ret
    exact ⟨rfl, (by repeat (first | (with_reducible exact gr_refl _ _) | (with_reducible assumption) | (with_reducible refine gr_drew ?_) | (with_reducible refine gr_drewN ?_ _) | (with_reducible refine gr_alloc ?_ _) | (with_reducible refine gr_set ?_ (.inr (by simp; done)) _) | (with_reducible refine gr_set ?_ (.inr (by simp; omega)) _) | (with_reducible refine gr_then ?_ (by with_reducible assumption))))⟩
  · rw [if_neg hl]
    go_enter Try.func63, Try.ntmps63
    go_wp2
    go_ret
    exact ⟨rfl, (by repeat (first | (with_reducible exact gr_refl _ _) | (with_reducible assumption) | (with_reducible refine gr_drew ?_) | (with_reducible refine gr_drewN ?_ _) | (with_reducible refine gr_alloc ?_ _) | (with_reducible refine gr_set ?_ (.inr (by simp; done)) _) | (with_reducible refine gr_set ?_ (.inr (by simp; omega)) _) | (with_reducible refine gr_then ?_ (by with_reducible assumption))))⟩
theorem szIntS_any {v : Value} {xs : List Int} (m : Int) (w : World) (h : Ints w v xs) (h0 : 0 ≤ m) (h1 : m ≤ 1048576) :
    Calls Try.prog 64 #[v, .int .i64 m] w fun e w' => e = .returned (.int .i64 (if m - xs.length < 0 then -1 else m - xs.length)) ∧ Gr w w' none := by
  obtain ⟨_, a, cap, rfl, hcap, hmax, hat⟩ := h
  clear hat
  unfold maxLen at hmax
  by_cases hl : m - xs.length < 0
  · rw [if_pos hl]
    go_enter Try.func64, Try.ntmps64
    go_wp2
    go_ret
    exact ⟨rfl, (by repeat (first | (with_reducible exact gr_refl _ _) | (with_reducible assumption) | (with_reducible refine gr_drew ?_) | (with_reducible refine gr_drewN ?_ _) | (with_reducible refine gr_alloc ?_ _) | (with_reducible refine gr_set ?_ (.inr (by simp; done)) _) | (with_reducible refine gr_set ?_ (.inr (by simp; omega)) _) | (with_reducible refine gr_then ?_ (by with_reducible assumption))))⟩
  · rw [if_neg hl]
    go_enter Try.func64, Try.ntmps64
    go_wp2
    go_ret
    exact ⟨rfl, (by repeat (first | (with_reducible exact gr_refl _ _) | (with_reducible assumption) | (with_reducible refine gr_drew ?_) | (with_reducible refine gr_drewN ?_ _) | (with_reducible refine gr_alloc ?_ _) | (with_reducible refine gr_set ?_ (.inr (by simp; done)) _) | (with_reducible refine gr_set ?_ (.inr (by simp; omega)) _) | (with_reducible refine gr_then ?_ (by with_reducible assumption))))⟩
theorem eqCisternP (a p b q : Int) (w : World) :
    Calls Try.prog 26 #[.agg #[.int .i64 a, .int .i64 p], .agg #[.int .i64 b, .int .i64 q]] w fun e w' => e = .returned (.bool (eqPB a p b q)) ∧ Gr w w' none := eqCistern_any a p b q w
theorem held4 {w a b : World} {p q r s : Addr} {x y z u : Value} (h : a.cell? p = some x ∧ a.cell? q = some y ∧ a.cell? r = some z ∧ a.cell? s = some u ∧ Gr w a none) (hg : Gr a b none) :
    b.cell? p = some x ∧ b.cell? q = some y ∧ b.cell? r = some z ∧ b.cell? s = some u ∧ Gr w b none :=
  ⟨World.grownBy.cell hg h.1 (by simp), World.grownBy.cell hg h.2.1 (by simp), World.grownBy.cell hg h.2.2.1 (by simp), World.grownBy.cell hg h.2.2.2.1 (by simp), gr_then h.2.2.2.2 hg⟩
theorem eqCisternS_any {u v : Value} {xs ys : List (Int × Int)} (w : World) (hu : Pairs w u xs) (hv : Pairs w v ys) :
    Calls Try.prog 67 #[u, v] w fun e w' => e = .returned (.bool (decide (xs = ys))) ∧ Gr w w' none := by
  obtain ⟨_, a, cap, rfl, hcap, hmax, hat⟩ := hu
  obtain ⟨_, a', cap', rfl, hcap', hmax', hat'⟩ := hv
  unfold maxLen at hmax hmax'
  by_cases hl : xs.length = ys.length
  · have HL := hid hl
    have hlb : ((xs.length : Int) != (ys.length : Int)) = false := by rw [hl]; simp
    clear hl
    go_enter Try.func67, Try.ntmps67
    go_wp2
    go_loopw [5] (fun i wr => ∃ k : Nat, k ≤ xs.length ∧ i = .int .i64 k ∧ EqPTo xs ys k ∧ Gr w wr none) (fun i _ => xs.length - (intOf i).toNat)
    case atStart => exact ⟨0, Nat.zero_le _, rfl, eqPTo_zero _ _, gr_refl _ _⟩
    case round =>
      obtain ⟨k, hk, rfl, heq, hg⟩ := hrel
      have HE := hid heq
      clear heq
      by_cases hlt : k < xs.length
      · have hlt' : k < ys.length := by have := HL.out; omega
        obtain ⟨b, off, rfl, hc⟩ : ∃ b off, a = some ⟨b, off, none⟩ ∧ PairsAt w b off xs := by
          rcases hat with h0 | h0
          · subst h0; simp at hlt
          · exact h0
        obtain ⟨b', off', rfl, hc'⟩ : ∃ b off, a' = some ⟨b, off, none⟩ ∧ PairsAt w b off ys := by
          rcases hat' with h0 | h0
          · subst h0; simp at hlt'
          · exact h0
        obtain ⟨c1, c2⟩ := (hc.kept hg (by simp)) k hlt
        obtain ⟨c3, c4⟩ := (hc'.kept hg (by simp)) k hlt'
        have HA := hid (And.intro c1 (And.intro c2 (And.intro c3 (And.intro c4 hg))))
        have h1 : (k : Int) < (xs.length : Int) := by omega
        have h2 : (k : Int) < (ys.length : Int) := by omega
        have h3 : (0 : Int) ≤ (k : Int) := by omega
        clear hc hc' hat hat' c1 c2 c3 c4 hg
        generalize hX : gp xs k = X at *
        generalize hY : gp ys k = Y at *
        have HX := hid hX
        have HY := hid hY
        clear hX hY
        go_wp2_with fail
        go_region_held3 (fun w' => w'.cell? ⟨b, off + k * 2, none⟩ = some (.int .i64 X.1) ∧ w'.cell? ⟨b, off + k * 2 + 1, none⟩ = some (.int .i64 X.2) ∧ w'.cell? ⟨b', off' + k * 2, none⟩ = some (.int .i64 Y.1) ∧ w'.cell? ⟨b', off' + k * 2 + 1, none⟩ = some (.int .i64 Y.2) ∧ Gr w w' none)
          (first | exact held4 (by assumption) (by assumption) | exact held4 HA.out (gr_drew (gr_refl _ _)) | exact HA.out)
          (first | (go_at_call 26; refine (eqCisternP _ _ _ _ _).mono ?_; rintro e w' ⟨rfl, hg⟩))
        have g1 : Gr w w' none := by
          have hh : w'.cell? ⟨b, off + k * 2, none⟩ = some (.int .i64 X.1) ∧ w'.cell? ⟨b, off + k * 2 + 1, none⟩ = some (.int .i64 X.2) ∧ w'.cell? ⟨b', off' + k * 2, none⟩ = some (.int .i64 Y.1) ∧ w'.cell? ⟨b', off' + k * 2 + 1, none⟩ = some (.int .i64 Y.2) ∧ Gr w w' none := by assumption
          exact hh.2.2.2.2
        cases hq : eqPB X.1 X.2 Y.1 Y.2
        · have hne := eqPB_false hq
          have HQ : Hid (¬ gp xs k = gp ys k) := by rw [HX.out, HY.out]; exact hid hne
          clear hne
          go_wp2
          go_ret
          exact ⟨ret_bool (eqP_no HQ.out).symm, g1⟩
        · have hne := eqPB_true hq
          have HQ : Hid (gp xs k = gp ys k) := by rw [HX.out, HY.out]; exact hid hne
          clear hne
          go_wp2
          go_roundw
          case rel => exact ⟨k + 1, by omega, by go_num, eqPTo_succ HE.out HQ.out, g1⟩
          case measure => simp [intOf]; omega
      · have hkl : k = xs.length := by omega
        subst hkl
        clear hat hat'
        go_wp2
        go_ret
        exact ⟨ret_bool (eqPTo_all HL.out HE.out).symm, hg⟩
  · have HL := hid hl
    have hlb : ((xs.length : Int) != (ys.length : Int)) = true := by simp; omega
    clear hl
    go_enter Try.func67, Try.ntmps67
    go_wp2
    go_ret
    exact ⟨ret_bool (eqP_no_len HL.out).symm, gr_refl _ _⟩
end Go.Proofs.Ytbbacodhklanjaa
