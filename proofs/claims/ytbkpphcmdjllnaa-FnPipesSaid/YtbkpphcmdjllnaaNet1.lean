/- Nets: pipes copied, compared, counted. -/
import Derived.Test.YtbkpphcmdjllnaaTrips
import Derived.Test.YtbkpphcmdjllnaaCommon
import Derived.Deep.RegionHeld3
namespace Go.Proofs.Ytbkpphcmdjllnaa
open Go.RowKit

theorem toPipe_any (x y z : Int) (w : World) :
    Calls Try.prog 33 #[.agg #[.int .i64 x, .int .i64 y, .int .i64 z]] w fun e w' => e = .returned (.agg #[.int .i64 x, .int .i64 y, .int .i64 z]) ∧ Gr w w' none := by
  go_enter Try.func33, Try.ntmps33
  go_wp2
  go_returns
  exact ⟨rfl, (by repeat (first | (with_reducible exact gr_refl _ _) | (with_reducible assumption) | (with_reducible refine gr_drew ?_) | (with_reducible refine gr_drewN ?_ _) | (with_reducible refine gr_alloc ?_ _) | (with_reducible refine gr_set ?_ (.inr (by simp; done)) _) | (with_reducible refine gr_set ?_ (.inr (by simp; omega)) _) | (with_reducible refine gr_then ?_ (by with_reducible assumption))))⟩
theorem info_pipe : (Try.prog.info? 45).map (fun i => (i.zero, i.size, i.bytes)) = some (some (.agg #[.int .i64 0, .int .i64 0, .int .i64 0]), 3, 24) := by kernel_rfl
theorem toPipeS_any {v : Value} {ps : List Tri} (w : World) (h : Trips w v ps) (hs : ps.length ≤ 1048576) :
    Calls Try.prog 22 #[v] w (RetT 45 w ps) := by
  obtain ⟨hbd, a, cap, rfl, hcap, hmax, hat⟩ := h
  obtain ⟨i0, hi, hz0, hz1, hz2⟩ := info_parts info_pipe
  go_enter Try.func22, Try.ntmps22
  go_wp2_with (at_make; refine wpList_make_full _ rfl _ _ 27 rfl w.heap.size 45 i0 (.agg #[.int .i64 0, .int .i64 0, .int .i64 0]) 3 Try.underlying27 hi hz0 hz1 .i64 .i64 ps.length ps.length ps.length rfl rfl rfl rfl ?c1 ?c2 ?c3 ?_)
  case c1 => rw [hz2]; omega
  case c2 => unfold maxLen; omega
  case c3 => exact Nat.le_refl _
  intro w1 hown hg1
  have HO : w1.ownsRow w.heap.size 45 3 (.slice (some ⟨w.heap.size, 0, none⟩) ps.length ps.length) ps.length (tcells (tcopy ps 0)) := by
    rw [tcopy_zero]; exact hown
  have hg1' : Gr w w1 none := hg1
  clear hown hg1 hi hz0 hz1 hz2
  go_wp2
  go_loopw [4] (fun i wr => ∃ k : Nat, k ≤ ps.length ∧ i = .int .i64 k ∧ wr.ownsRow w.heap.size 45 3 (.slice (some ⟨w.heap.size, 0, none⟩) ps.length ps.length) ps.length (tcells (tcopy ps k)) ∧ Gr w wr none) (fun i _ => ps.length - (intOf i).toNat)
  case atStart => exact ⟨0, Nat.zero_le _, rfl, HO, hg1'⟩
  case round =>
    obtain ⟨k, hk, rfl, hown, hg⟩ := hrel
    clear HO hg1'
    by_cases hlt : k < ps.length
    · obtain ⟨b, off, rfl, hc⟩ : ∃ b off, a = some ⟨b, off, none⟩ ∧ TripsAt w b off ps := by
        rcases hat with h0 | h0
        · subst h0; simp at hlt
        · exact h0
      obtain ⟨c1, c2, c3⟩ := (hc.kept hg (by simp)) k hlt
      clear hc hat
      go_wp2_with fail
      refine (toPipe_any _ _ _ _).mono ?_
      rintro e w2 ⟨rfl, g2⟩
      have hown2 := hown.kept g2 (.inr (by simp [Value.ownBlock]))
      clear hown c1 c2 c3
      obtain ⟨d0, d1, d2, e0, e1, e2⟩ := tcopy_get ps k k hlt
      have hd0 := (hown2.cellAt (k * 3) (by omega)).trans e0
      have hd1 := (hown2.cellAt (k * 3 + 1) (by omega)).trans e1
      have hd2 := (hown2.cellAt (k * 3 + 2) (by omega)).trans e2
      have hf0 := hown2.frozenAt (k * 3)
      have hf1 := hown2.frozenAt (k * 3 + 1)
      have hf2 := hown2.frozenAt (k * 3 + 2)
      have hst := (hown2.stored (k * 3) (.int .i64 (gt ps k).1)).1
      have hst2 := (hst.stored (k * 3 + 1) (.int .i64 (gt ps k).2.1)).1
      have hst3 := (hst2.stored (k * 3 + 2) (.int .i64 (gt ps k).2.2)).1
      rw [tcells_set, show ((gt ps k).1, (gt ps k).2.1, (gt ps k).2.2) = gt ps k from rfl, tcopy_set] at hst3
      have HS := hid hst3
      have hgs := gr_set (gr_set (gr_set (gr_then hg g2) (p := ⟨w.heap.size, k * 3, none⟩) (.inr (Nat.le_refl _)) (.int .i64 (gt ps k).1)) (p := ⟨w.heap.size, k * 3 + 1, none⟩) (.inr (Nat.le_refl _)) (.int .i64 (gt ps k).2.1)) (p := ⟨w.heap.size, k * 3 + 2, none⟩) (.inr (Nat.le_refl _)) (.int .i64 (gt ps k).2.2)
      have hd1' : (w2.setCell ⟨w.heap.size, k * 3, none⟩ (.int .i64 (gt ps k).1)).cell? ⟨w.heap.size, k * 3 + 1, none⟩ = some d1 := by
        rw [World.cell?_setCell_other]
        · exact hd1
        · intro e; simp at e
      have hd2' : ((w2.setCell ⟨w.heap.size, k * 3, none⟩ (.int .i64 (gt ps k).1)).setCell ⟨w.heap.size, k * 3 + 1, none⟩ (.int .i64 (gt ps k).2.1)).cell? ⟨w.heap.size, k * 3 + 2, none⟩ = some d2 := by
        rw [World.cell?_setCell_other, World.cell?_setCell_other]
        · exact hd2
        · intro e; simp at e
        · intro e; simp at e
      clear hst hst2 hst3 hown2 e0 e1 e2 hg g2
      go_wp2
      go_roundw
      case rel => exact ⟨k + 1, by omega, by go_num, HS.out, hgs⟩
      case measure => simp [intOf]; omega
    · have hkl : k = ps.length := by omega
      have HK := hid hkl
      clear hkl hat
      go_wp2
      go_ret
      refine ⟨_, rfl, ⟨hbd, ?_⟩, hg⟩
      have e := tcopy_all ps
      rw [HK.out, e] at hown
      exact hown
theorem szPipeS_any {v : Value} {ps : List Tri} (m : Int) (w : World) (h : Trips w v ps) (h0 : 0 ≤ m) (h1 : m ≤ 1048576) :
    Calls Try.prog 20 #[v, .int .i64 m] w fun e w' => e = .returned (.int .i64 (if m - ps.length < 0 then -1 else m - ps.length)) ∧ Gr w w' none := by
  obtain ⟨_, a, cap, rfl, hcap, hmax, hat⟩ := h
  clear hat
  unfold maxLen at hmax
  by_cases hl : m - ps.length < 0
  · rw [if_pos hl]
    go_enter Try.func20, Try.ntmps20
    go_wp2
    go_ret
    exact ⟨rfl, (by repeat (first | (with_reducible exact gr_refl _ _) | (with_reducible assumption) | (with_reducible refine gr_drew ?_) | (with_reducible refine gr_drewN ?_ _) | (with_reducible refine gr_alloc ?_ _) | (with_reducible refine gr_set ?_ (.inr (by simp; done)) _) | (with_reducible refine gr_set ?_ (.inr (by simp; omega)) _) | (with_reducible refine gr_then ?_ (by with_reducible assumption))))⟩
  · rw [if_neg hl]
    go_enter Try.func20, Try.ntmps20
    go_wp2
    go_ret
    exact ⟨rfl, (by repeat (first | (with_reducible exact gr_refl _ _) | (with_reducible assumption) | (with_reducible refine gr_drew ?_) | (with_reducible refine gr_drewN ?_ _) | (with_reducible refine gr_alloc ?_ _) | (with_reducible refine gr_set ?_ (.inr (by simp; done)) _) | (with_reducible refine gr_set ?_ (.inr (by simp; omega)) _) | (with_reducible refine gr_then ?_ (by with_reducible assumption))))⟩
theorem eqPipe_any (X Y : Tri) (w : World) :
    Calls Try.prog 34 #[.agg #[.int .i64 X.1, .int .i64 X.2.1, .int .i64 X.2.2], .agg #[.int .i64 Y.1, .int .i64 Y.2.1, .int .i64 Y.2.2]] w fun e w' => e = .returned (.bool (eqTB X Y)) ∧ Gr w w' none := by
  obtain ⟨x1, x2, x3⟩ := X
  obtain ⟨y1, y2, y3⟩ := Y
  by_cases h1 : x1 = y1
  · by_cases h2 : x2 = y2
    · by_cases h3 : x3 = y3
      · have HE : Hid (eqTB (x1, x2, x3) (y1, y2, y3) = true) := by simp [eqTB, h1, h2, h3, Hid]
        have q1 : (x1 != y1) = false := by simpa using h1
        have q2 : (x2 != y2) = false := by simpa using h2
        have q3 : (x3 != y3) = false := by simpa using h3
        clear h1 h2 h3
        go_enter Try.func34, Try.ntmps34
        go_wp2
        repeat (go_quiet (fail); go_wp2)
        go_ret
        exact ⟨by rw [HE.out]; rfl, (by repeat (first | (with_reducible exact gr_refl _ _) | (with_reducible assumption) | (with_reducible refine gr_drew ?_) | (with_reducible refine gr_drewN ?_ _) | (with_reducible refine gr_alloc ?_ _) | (with_reducible refine gr_set ?_ (.inr (by simp; done)) _) | (with_reducible refine gr_set ?_ (.inr (by simp; omega)) _) | (with_reducible refine gr_then ?_ (by with_reducible assumption))))⟩
      · have HE : Hid (eqTB (x1, x2, x3) (y1, y2, y3) = false) := by simp [eqTB, h1, h2, h3, Hid]
        have q1 : (x1 != y1) = false := by simpa using h1
        have q2 : (x2 != y2) = false := by simpa using h2
        have q3 : (x3 != y3) = true := by simpa using h3
        clear h1 h2 h3
        go_enter Try.func34, Try.ntmps34
        go_wp2
        repeat (go_quiet (fail); go_wp2)
        go_ret
        exact ⟨by rw [HE.out]; rfl, (by repeat (first | (with_reducible exact gr_refl _ _) | (with_reducible assumption) | (with_reducible refine gr_drew ?_) | (with_reducible refine gr_drewN ?_ _) | (with_reducible refine gr_alloc ?_ _) | (with_reducible refine gr_set ?_ (.inr (by simp; done)) _) | (with_reducible refine gr_set ?_ (.inr (by simp; omega)) _) | (with_reducible refine gr_then ?_ (by with_reducible assumption))))⟩
    · have HE : Hid (eqTB (x1, x2, x3) (y1, y2, y3) = false) := by simp [eqTB, h1, h2, Hid]
      have q1 : (x1 != y1) = false := by simpa using h1
      have q2 : (x2 != y2) = true := by simpa using h2
      clear h1 h2
      go_enter Try.func34, Try.ntmps34
      go_wp2
      repeat (go_quiet (fail); go_wp2)
      go_ret
      exact ⟨by rw [HE.out]; rfl, (by repeat (first | (with_reducible exact gr_refl _ _) | (with_reducible assumption) | (with_reducible refine gr_drew ?_) | (with_reducible refine gr_drewN ?_ _) | (with_reducible refine gr_alloc ?_ _) | (with_reducible refine gr_set ?_ (.inr (by simp; done)) _) | (with_reducible refine gr_set ?_ (.inr (by simp; omega)) _) | (with_reducible refine gr_then ?_ (by with_reducible assumption))))⟩
  · have HE : Hid (eqTB (x1, x2, x3) (y1, y2, y3) = false) := by simp [eqTB, h1, Hid]
    have q1 : (x1 != y1) = true := by simpa using h1
    clear h1
    go_enter Try.func34, Try.ntmps34
    go_wp2
    repeat (go_quiet (fail); go_wp2)
    go_ret
    exact ⟨by rw [HE.out]; rfl, (by repeat (first | (with_reducible exact gr_refl _ _) | (with_reducible assumption) | (with_reducible refine gr_drew ?_) | (with_reducible refine gr_drewN ?_ _) | (with_reducible refine gr_alloc ?_ _) | (with_reducible refine gr_set ?_ (.inr (by simp; done)) _) | (with_reducible refine gr_set ?_ (.inr (by simp; omega)) _) | (with_reducible refine gr_then ?_ (by with_reducible assumption))))⟩
theorem held6 {w a b : World} {p q r s t v : Addr} {x y z u f g : Value} (h : a.cell? p = some x ∧ a.cell? q = some y ∧ a.cell? r = some z ∧ a.cell? s = some u ∧ a.cell? t = some f ∧ a.cell? v = some g ∧ Gr w a none) (hg : Gr a b none) :
    b.cell? p = some x ∧ b.cell? q = some y ∧ b.cell? r = some z ∧ b.cell? s = some u ∧ b.cell? t = some f ∧ b.cell? v = some g ∧ Gr w b none :=
  ⟨World.grownBy.cell hg h.1 (by simp), World.grownBy.cell hg h.2.1 (by simp), World.grownBy.cell hg h.2.2.1 (by simp), World.grownBy.cell hg h.2.2.2.1 (by simp), World.grownBy.cell hg h.2.2.2.2.1 (by simp), World.grownBy.cell hg h.2.2.2.2.2.1 (by simp), gr_then h.2.2.2.2.2.2 hg⟩
theorem eqPipeS_any {u v : Value} {xs ys : List Tri} (w : World) (hu : Trips w u xs) (hv : Trips w v ys) :
    Calls Try.prog 24 #[u, v] w fun e w' => e = .returned (.bool (decide (xs = ys))) ∧ Gr w w' none := by
  obtain ⟨_, a, cap, rfl, hcap, hmax, hat⟩ := hu
  obtain ⟨_, a', cap', rfl, hcap', hmax', hat'⟩ := hv
  unfold maxLen at hmax hmax'
  by_cases hl : xs.length = ys.length
  · have HL := hid hl
    have hlb : ((xs.length : Int) != (ys.length : Int)) = false := by rw [hl]; simp
    clear hl
    go_enter Try.func24, Try.ntmps24
    go_wp2
    go_loopw [5] (fun i wr => ∃ k : Nat, k ≤ xs.length ∧ i = .int .i64 k ∧ EqTTo xs ys k ∧ Gr w wr none) (fun i _ => xs.length - (intOf i).toNat)
    case atStart => exact ⟨0, Nat.zero_le _, rfl, eqTTo_zero _ _, gr_refl _ _⟩
    case round =>
      obtain ⟨k, hk, rfl, heq, hg⟩ := hrel
      have HE := hid heq
      clear heq
      by_cases hlt : k < xs.length
      · have hlt' : k < ys.length := by have := HL.out; omega
        obtain ⟨b, off, rfl, hc⟩ : ∃ b off, a = some ⟨b, off, none⟩ ∧ TripsAt w b off xs := by
          rcases hat with h0 | h0
          · subst h0; simp at hlt
          · exact h0
        obtain ⟨b', off', rfl, hc'⟩ : ∃ b off, a' = some ⟨b, off, none⟩ ∧ TripsAt w b off ys := by
          rcases hat' with h0 | h0
          · subst h0; simp at hlt'
          · exact h0
        obtain ⟨c1, c2, c3⟩ := (hc.kept hg (by simp)) k hlt
        obtain ⟨c4, c5, c6⟩ := (hc'.kept hg (by simp)) k hlt'
        have HA := hid (And.intro c1 (And.intro c2 (And.intro c3 (And.intro c4 (And.intro c5 (And.intro c6 hg))))))
        have h1 : (k : Int) < (xs.length : Int) := by omega
        have h2 : (k : Int) < (ys.length : Int) := by omega
        have h3 : (0 : Int) ≤ (k : Int) := by omega
        clear hc hc' hat hat' c1 c2 c3 c4 c5 c6 hg
        generalize hX : gt xs k = X at *
        generalize hY : gt ys k = Y at *
        have HX := hid hX
        have HY := hid hY
        clear hX hY
        go_wp2_with fail
        go_region_held3 (fun w' => w'.cell? ⟨b, off + k * 3, none⟩ = some (.int .i64 X.1) ∧ w'.cell? ⟨b, off + k * 3 + 1, none⟩ = some (.int .i64 X.2.1) ∧ w'.cell? ⟨b, off + k * 3 + 2, none⟩ = some (.int .i64 X.2.2) ∧ w'.cell? ⟨b', off' + k * 3, none⟩ = some (.int .i64 Y.1) ∧ w'.cell? ⟨b', off' + k * 3 + 1, none⟩ = some (.int .i64 Y.2.1) ∧ w'.cell? ⟨b', off' + k * 3 + 2, none⟩ = some (.int .i64 Y.2.2) ∧ Gr w w' none)
          (first | exact held6 (by assumption) (by assumption) | exact held6 HA.out (gr_drew (gr_refl _ _)) | exact HA.out)
          (first | (go_at_call 34; refine (eqPipe_any _ _ _).mono ?_; rintro e w' ⟨rfl, hg⟩))
        have g1 : Gr w w' none := by
          have hh : w'.cell? ⟨b, off + k * 3, none⟩ = some (.int .i64 X.1) ∧ w'.cell? ⟨b, off + k * 3 + 1, none⟩ = some (.int .i64 X.2.1) ∧ w'.cell? ⟨b, off + k * 3 + 2, none⟩ = some (.int .i64 X.2.2) ∧ w'.cell? ⟨b', off' + k * 3, none⟩ = some (.int .i64 Y.1) ∧ w'.cell? ⟨b', off' + k * 3 + 1, none⟩ = some (.int .i64 Y.2.1) ∧ w'.cell? ⟨b', off' + k * 3 + 2, none⟩ = some (.int .i64 Y.2.2) ∧ Gr w w' none := by assumption
          exact hh.2.2.2.2.2.2
        cases hq : eqTB X Y
        · have hne := eqTB_false hq
          have HQ : Hid (¬ gt xs k = gt ys k) := by rw [HX.out, HY.out]; exact hid hne
          clear hne
          go_wp2
          go_ret
          exact ⟨ret_bool (eqT_no HQ.out).symm, g1⟩
        · have hne := eqTB_true hq
          have HQ : Hid (gt xs k = gt ys k) := by rw [HX.out, HY.out]; exact hid hne
          clear hne
          go_wp2
          go_roundw
          case rel => exact ⟨k + 1, by omega, by go_num, eqTTo_succ HE.out HQ.out, g1⟩
          case measure => simp [intOf]; omega
      · have hkl : k = xs.length := by omega
        subst hkl
        clear hat hat'
        go_wp2
        go_ret
        exact ⟨ret_bool (eqTTo_all HL.out HE.out).symm, hg⟩
  · have HL := hid hl
    have hlb : ((xs.length : Int) != (ys.length : Int)) = true := by simp; omega
    clear hl
    go_enter Try.func24, Try.ntmps24
    go_wp2
    go_ret
    exact ⟨ret_bool (eqT_no_len HL.out).symm, gr_refl _ _⟩
end Go.Proofs.Ytbkpphcmdjllnaa
