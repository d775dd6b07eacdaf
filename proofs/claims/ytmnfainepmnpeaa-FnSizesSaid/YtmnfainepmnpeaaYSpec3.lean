/- The model's dry and short days. -/
import Derived.Test.YtmnfainepmnpeaaYSpec2
namespace Go.Proofs.Ytmnfainepmnpeaa
open Go.RowKit

theorem dry_gi {r s n : Int} {xs : List Int} {k : Nat} (h : k < xs.length) : dryAt r s n xs k = if gi (levelsTo r s n xs xs.length) k = 0 then 1 else 0 := by
  rw [levelsTo, gi_days h]; rfl
theorem sDryDays_any {v : Value} {xs : List Int} (r s n : Int) (w : World) (hv : Ints w v xs) :
    Calls Try.prog 34 #[.agg #[.int .i64 r, .int .i64 s, v, .int .i64 n]] w fun e w' => e = .returned (.int .i64 (dryV r s n xs)) ∧ Gr w w' none := by
  have HV := hid hv
  obtain ⟨_, a, cap, rfl, hcap, hmax, hat⟩ := hv
  clear hat
  cases hy : yearB r s xs n
  · rw [show dryV r s n xs = -1 from by simp [dryV, hy]]
    have HY := hid hy
    clear hy
    go_enter Try.func34, Try.ntmps34
    go_wp2_with fail
    refine (sYearOk_any _ _ _ _ (HV.out.on (gr_alloc (gr_refl _ _) _))).mono ?_
    rw [HY.out]
    rintro e w1 ⟨rfl, g1⟩
    go_wp2
    go_ret
    exact ⟨rfl, (by repeat (first | (with_reducible exact gr_refl _ _) | (with_reducible assumption) | (with_reducible refine gr_drew ?_) | (with_reducible refine gr_drewN ?_ _) | (with_reducible refine gr_alloc ?_ _) | (with_reducible refine gr_set ?_ (.inr (by simp; done)) _) | (with_reducible refine gr_set ?_ (.inr (by simp; omega)) _) | (with_reducible refine gr_then ?_ (by with_reducible assumption))))⟩
  · obtain ⟨-, -, hl, -, -⟩ := yearB_parts hy
    have HB : Hid (∀ k, k ≤ xs.length → 0 ≤ sumF (dryAt r s n xs) k ∧ sumF (dryAt r s n xs) k ≤ 1000000000) := fun k hk => sum_bd400 (fun i _ => dry_bd r s n xs i) hl.2 hk
    rw [show dryV r s n xs = sumF (dryAt r s n xs) xs.length from by simp [dryV, hy]]
    have HL : Hid (levelsV r s n xs = levelsTo r s n xs xs.length) := by simp [levelsV, hy, Hid]
    have hll : (levelsTo r s n xs xs.length).length = xs.length := daysTo_length _ _
    have HLL := hid hll
    have HD : Hid (∀ k, k < xs.length → dryAt r s n xs k = if gi (levelsTo r s n xs xs.length) k = 0 then 1 else 0) := fun k hk => dry_gi hk
    generalize levelsTo r s n xs xs.length = ys at *
    have HY := hid hy
    clear hy hll
    go_enter Try.func34, Try.ntmps34
    go_wp2_with fail
    refine (sYearOk_any _ _ _ _ (HV.out.on (gr_alloc (gr_refl _ _) _))).mono ?_
    rw [HY.out]
    rintro e w1 ⟨rfl, g1⟩
    obtain ⟨p0, p1, p2, p3, lA⟩ := (yBox_new w 27 r s (.slice a xs.length cap) n).on g1
    have G1 := hid (gr_then (gr_alloc (gr_refl w none) _) g1)
    clear g1
    go_wp2_with fail
    refine (l06Run_any _ _ _ _ (HV.out.on G1.out)).mono ?_
    rw [HL.out]
    rintro e w2 ⟨p, q, t, rfl, o1, o2, o3, g2⟩
    have hO := o1.ints
    obtain ⟨_, a2, cap2, rfl, hcap2, hmax2, hat2⟩ := hO
    unfold maxLen at hmax2
    have HG := hid (gr_then G1.out g2)
    clear o1 o2 o3 g2 p0 p1 p2 p3 lA
    go_wp2_with fail
    go_loop [3, 7] (fun c i => ∃ k : Nat, k ≤ ys.length ∧ i = .int .i64 k ∧ c = .int .i64 (sumF (dryAt r s n xs) k)) (fun _ i => ys.length - (intOf i).toNat)
    case atStart => exact ⟨0, Nat.zero_le _, rfl, rfl⟩
    case round =>
      obtain ⟨k, hk, rfl, rfl⟩ := hrel
      by_cases hlt : k < ys.length
      · obtain ⟨b, off, rfl, hc⟩ : ∃ b off, a2 = some ⟨b, off, none⟩ ∧ IntsAt w2 b off ys := by
          rcases hat2 with h0 | h0
          · subst h0; simp at hlt
          · exact h0
        have hcell := hc k hlt
        have b2 := HB.out k (by rw [← HLL.out]; exact hk)
        have hd := HD.out k (by rw [← HLL.out]; exact hlt)
        have E : Hid (sumF (dryAt r s n xs) (k + 1) = sumF (dryAt r s n xs) k + dryAt r s n xs k) := hid rfl
        by_cases h0 : gi ys k = 0
        · rw [if_pos h0] at hd
          have hb : (gi ys k == 0) = true := by simp [h0]
          have HD1 := hid hd
          clear hat2 hc hd h0
          go_wp2
          go_round
          case rel => exact ⟨k + 1, by omega, by go_num, by rw [E.out, HD1.out]⟩
          case measure => simp [intOf]; omega
        · rw [if_neg h0] at hd
          have hb : (gi ys k == 0) = false := by simp [h0]
          have HD1 := hid hd
          clear hat2 hc hd h0
          go_wp2
          go_round
          case rel => exact ⟨k + 1, by omega, by go_num, by rw [E.out, HD1.out, Int.add_zero]⟩
          case measure => simp [intOf]; omega
      · have hkl : k = xs.length := by have := HLL.out; omega
        subst hkl
        clear hat2
        go_wp2
        go_ret
        exact ⟨rfl, HG.out⟩
theorem sShortDays_any {v : Value} {xs : List Int} (r s n : Int) (w : World) (hv : Ints w v xs) :
    Calls Try.prog 48 #[.agg #[.int .i64 r, .int .i64 s, v, .int .i64 n]] w (RetI 3 w (shortV r s n xs)) := by
  have HV := hid hv
  obtain ⟨_, a, cap, rfl, hcap, hmax, hat⟩ := hv
  clear hat
  cases hy : yearB r s xs n
  · rw [show shortV r s n xs = [] from by simp [shortV, hy]]
    have HL : Hid (drawnL r s n xs = []) := by simp [drawnL, hy, Hid]
    clear hy
    go_enter Try.func48, Try.ntmps48
    go_wp2_with fail
    have E0 := hid (show ((w.alloc (.cells #[.int .i64 r, .int .i64 s, .slice a xs.length cap, .int .i64 n] 27)).alloc (.cells #[] 3)).ownsRow (w.heap.size + 1) 3 1 (.slice (some ⟨w.heap.size + 1, 0, none⟩) 0 0) 0 [] from e_last _ _ _ _ _ (by simp) (by omega))
    refine (l06Run_any _ _ _ _ (HV.out.on (gr_alloc (gr_alloc (gr_refl _ _) _) _))).mono ?_
    rw [HL.out]
    rintro e w2 ⟨p, q, t, rfl, o1, o2, o3, g2⟩
    obtain ⟨a2, cap2, rfl⟩ := sl_own o3.2
    have HO := hid (OwnI.on (E := 3) (w := (w.alloc (.cells #[.int .i64 r, .int .i64 s, .slice a xs.length cap, .int .i64 n] 27)).alloc (.cells #[] 3)) (B := w.heap.size + 1) (xs := []) ⟨by simp, E0.out⟩ g2)
    have HG := hid (gr_then (gr_alloc (gr_alloc (gr_refl w none) _) _) g2)
    clear o1 o2 o3 g2
    go_wp2_with fail
    refine Go.wp_loop_rounds 1 ?_
    rw [Go.rounds_succ]
    go_wp2
    go_ret
    exact ⟨_, rfl, HO.out.mono (Nat.le_succ _), HG.out⟩
  · obtain ⟨-, -, hl, -, hn⟩ := yearB_parts hy
    have HS : Hid (shortV r s n xs = shortTo r s n xs xs.length) := by simp [shortV, hy, Hid]
    have HL : Hid (drawnL r s n xs = daysTo (drawnAt r s n xs) xs.length) := by simp [drawnL, hy, Hid]
    have HI := hid (short_i64 hy)
    have hll : (daysTo (drawnAt r s n xs) xs.length).length = xs.length := daysTo_length _ _
    have HD : Hid (∀ k, k < xs.length → gi (daysTo (drawnAt r s n xs) xs.length) k = drawnAt r s n xs k) := fun k hk => gi_days hk
    have HBD : Hid (∀ k, k < xs.length → 0 ≤ drawnAt r s n xs k ∧ drawnAt r s n xs k ≤ 1000000) := fun k hk => (day_bd hy hk).2.2.2.1
    have HLL := hid hll
    generalize daysTo (drawnAt r s n xs) xs.length = ys at *
    have HY := hid hy
    have hyl : ys.length ≤ 400 := by have := HLL.out; omega
    have hyl' : (ys.length : Int) ≤ 400 := by omega
    obtain ⟨i0, hi, hz0, hz1, hz2⟩ := info_parts info_int
    clear hy hll
    rw [HS.out]
    go_enter Try.func48, Try.ntmps48
    go_wp2_with fail
    have E0 := hid (show ((w.alloc (.cells #[.int .i64 r, .int .i64 s, .slice a xs.length cap, .int .i64 n] 27)).alloc (.cells #[] 3)).ownsRow (w.heap.size + 1) 3 1 (.slice (some ⟨w.heap.size + 1, 0, none⟩) 0 0) 0 [] from e_last _ _ _ _ _ (by simp) (by omega))
    refine (l06Run_any _ _ _ _ (HV.out.on (gr_alloc (gr_alloc (gr_refl _ _) _) _))).mono ?_
    rw [HL.out]
    rintro e w2 ⟨p, q, t, rfl, o1, o2, o3, g2⟩
    obtain ⟨_, a2, cap2, rfl, hcap2, hmax2, hat2⟩ := o3.ints
    unfold maxLen at hmax2
    have O2 := hid (E0.out.kept g2 (.inr (by simp [Value.ownBlock])))
    have G2 := hid (gr_then (gr_alloc (gr_alloc (gr_refl w none) _) _) g2)
    have HY2 := hid ((blk_new w #[.int .i64 r, .int .i64 s, .slice a xs.length cap, .int .i64 n] 27).on (gr_then (gr_alloc (gr_refl _ _) (.cells #[] 3)) g2))
    have z2 := gr_le g2
    simp only [World.size_alloc] at z2
    have HYS := hid (o3.ints)
    have hab : ∀ j, (Value.slice a2 ys.length cap2).ownBlock = some j → w.heap.size + 1 + 1 ≤ j ∧ j < w2.heap.size := fun j hj => by have := o3.lt j hj; simp at this; omega
    have HAB := hid hab
    clear o1 o2 o3 g2 hab
    go_wp2_with fail
    go_loopg [3, 7] (ys.length + 1) (fun gk u i wr => ∃ k : Nat, gk + k = ys.length + 1 ∧ k ≤ ys.length ∧ i = .int .i64 k ∧ wr.ownsRow (w.heap.size + 1) 3 1 u (shortTo r s n xs k).length ((shortTo r s n xs k).map (Value.int .i64)) ∧ (∀ j, u.ownBlock = some j → j = w.heap.size + 1 ∨ w2.heap.size ≤ j) ∧ Gr w wr none ∧ Ints wr (.slice a2 ys.length cap2) ys ∧ Blk wr w.heap.size #[.int .i64 r, .int .i64 s, .slice a xs.length cap, .int .i64 n] 27 ∧ w2.heap.size ≤ wr.heap.size)
    case atStart => exact ⟨0, by omega, by omega, rfl, O2.out, by intro j hj; simp [Value.ownBlock] at hj; omega, G2.out, HYS.out, HY2.out, Nat.le_refl _⟩
    case round =>
      obtain ⟨k, hgk, hk, rfl, hown, hub, hg, hys, hY, hz⟩ := hrel
      have HGK := hid hgk
      have HUB := hid hub
      clear hgk hub
      by_cases hlt : k < ys.length
      · have hlt' : (k : Int) < ys.length := by omega
        have hkx : k < xs.length := by rw [← HLL.out]; exact hlt
        have HYSr := hid hys
        obtain ⟨_, a3, cap3, e3, _, _, hat3⟩ := hys
        simp only [Value.slice.injEq, true_and] at e3
        obtain ⟨rfl, rfl⟩ := e3
        obtain ⟨b, off, rfl, hc⟩ : ∃ b off, a2 = some ⟨b, off, none⟩ ∧ IntsAt wr b off ys := by
          rcases hat3 with h0 | h0
          · subst h0; simp at hlt
          · exact h0
        have hcell := hc k hlt
        rw [HD.out k hkx] at hcell
        have y3 := Go.Joins.cell_of_block hY 3
        simp at y3
        have bd := HBD.out k hkx
        have h0k : (0 : Int) ≤ (k : Int) := by omega
        have hsl : (shortTo r s n xs k).length ≤ k := whereTo_length _ _
        have e1 : shortTo r s n xs (k + 1) = if decide (drawnAt r s n xs k < n) = true then shortTo r s n xs k ++ [(k : Int)] else shortTo r s n xs k := rfl
        have hbb := HAB.out b rfl
        obtain ⟨u1, u2, rfl⟩ := sl_own hown
        have HOW := hid hown
        have HYB := hid hY
        have HG := hid hg
        clear hc hat2 hat3 hown hY hg
        by_cases hd : drawnAt r s n xs k < n
        · rw [if_pos (by simpa using hd)] at e1
          have E := hid e1
          have hdd : decide (drawnAt r s n xs k < n) = true := by simpa using hd
          clear e1
          generalize drawnAt r s n xs k = DR at *
          generalize hLen : (shortTo r s n xs k).length = m at *
          have HLEN := hid hLen
          clear hLen
          go_wp2_with fail
          go_quiet (fail)
          have hzz : w.heap.size + 1 ≤ wr.heap.size + 1 := by omega
          generalize hwd : World.drewN _ _ = wd
          have gd : Gr wr wd none := by rw [← hwd]; exact gr_drewN (gr_refl _ _) _
          have hzd : w.heap.size + 1 ≤ wd.heap.size + 1 := by have := gr_le gd; omega
          have HOWd := hid (HOW.out.kept gd (rn _))
          clear hwd hcell y3
          go_wp2_with (at_builtin; refine wpList_append_lies _ rfl _ _ _ rfl (w.heap.size + 1) 3 i0 (.int .i64 0) 1 8 Try.underlying22 hi hz0 hz1 hz2 rfl (by decide) (.slice u1 m u2) m _ rfl (HOWd.out.alloc _) ⟨wd.heap.size, 0, none⟩ 1 1 [.int .i64 k] rfl rfl (new_one _ _ _) (one_int _) (by omega) (by unfold maxLen; omega) (by omega) (by simpa using hzd) _ rfl ?_)
          intro g1 cc1 w4 own4 grow4 hat4 lt4
          have hne : (Value.slice u1 m u2).ownBlock ≠ some b := fun e => by have := HUB.out b e; omega
          have q1 := gr_alloc gd (.cells #[.int .i64 k] 3)
          have hys4 := (HYSr.out.on q1).kept grow4 (fun j e => by intro e'; simp only [Value.ownBlock, Option.some.injEq] at e'; subst e'; exact hne e)
          have hY4 := (HYB.out.on q1).kept grow4 (own_ne_blk HOW.out HYB.out (by decide))
          have hG4 := gr_trans (gr_then HG.out q1) grow4 (fun j e => .inr (by have := (HOW.out.lt j e).1; omega))
          have hub4 : ∀ j, (Value.slice (some ⟨g1, 0, none⟩) (m + 1) cc1).ownBlock = some j → j = w.heap.size + 1 ∨ w2.heap.size ≤ j := fun j hj => by
            simp only [Value.ownBlock, Option.some.injEq] at hj
            subst hj
            rcases hat4 with h | h
            · exact HUB.out _ h
            · right; have := gr_le gd; omega
          have hz4 : w2.heap.size ≤ w4.heap.size := by have := gr_le q1; have := grow4.size; omega
          have HF := hid (And.intro own4 (And.intro hub4 (And.intro hG4 (And.intro hys4 (And.intro hY4 hz4)))))
          clear own4 hub4 hG4 hys4 hY4 hz4 q1 grow4 hat4 lt4 gd
          go_wp2
          go_roundg (gk - 1)
          case measure => have := HGK.out; omega
          case rel => exact ⟨k + 1, by have := HGK.out; omega, by omega, by go_num, by rw [E.out, List.length_append, HLEN.out, List.map_append]; exact HF.out.1, HF.out.2⟩
        · rw [if_neg (by simpa using hd)] at e1
          have E := hid e1
          have hdd : decide (drawnAt r s n xs k < n) = false := by simpa using hd
          clear e1
          generalize drawnAt r s n xs k = DR at *
          generalize hLen : (shortTo r s n xs k).length = m at *
          have HLEN := hid hLen
          clear hLen
          go_wp2_with fail
          go_quiet (fail)
          generalize hwd : World.drewN _ _ = wd
          have gd : Gr wr wd none := by rw [← hwd]; exact gr_drewN (gr_refl _ _) _
          have HF := hid (And.intro (HOW.out.kept gd (rn _)) (And.intro HUB.out (And.intro (gr_then HG.out gd) (And.intro (HYSr.out.on gd) (And.intro (HYB.out.on gd) (Nat.le_trans hz (gr_le gd)))))))
          clear hwd hcell y3 gd
          go_wp2
          go_roundg (gk - 1)
          case measure => have := HGK.out; omega
          case rel => exact ⟨k + 1, by have := HGK.out; omega, by omega, by go_num, by rw [E.out, HLEN.out]; exact HF.out.1, HF.out.2⟩
      · have hkl : k = xs.length := by have := HLL.out; omega
        subst hkl
        have HO := hid (OwnI.mono (E := 3) (w := wr) (B := w.heap.size + 1) (B' := w.heap.size) ⟨HI.out, hown⟩ (Nat.le_succ _))
        have HG := hid hg
        clear hown hg hys hY hat2
        go_wp2
        go_ret
        exact ⟨_, rfl, HO.out, HG.out⟩
end Go.Proofs.Ytmnfainepmnpeaa
