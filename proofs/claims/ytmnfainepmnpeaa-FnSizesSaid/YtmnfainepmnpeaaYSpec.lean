/- A year, run by the model: three lists. -/
import Derived.Test.YtmnfainepmnpeaaYDays
import Derived.Deep.DeepCutAuto
import Derived.Deep.RegionHeld3
namespace Go.Proofs.Ytmnfainepmnpeaa
open Go.RowKit

def RetY3 (I : TypeId) (w : World) (l o d : List Int) (e : Ending) (w' : World) : Prop := ∃ a b c, e = .returned (.tuple #[a, b, c]) ∧ OwnI I w' w.heap.size a l ∧ OwnI I w' w.heap.size b o ∧ OwnI I w' w.heap.size c d ∧ Gr w w' none
def lostL (r s n : Int) (xs : List Int) : List Int := if yearB r s xs n then daysTo (lostAt r s n xs) xs.length else []
def drawnL (r s n : Int) (xs : List Int) : List Int := if yearB r s xs n then daysTo (drawnAt r s n xs) xs.length else []
/-- Two rows share no block. -/
def Apart (u v : Value) : Prop := ∀ k, u.ownBlock = some k → v.ownBlock ≠ some k
theorem Apart.symm {u v : Value} (h : Apart u v) : Apart v u := fun k h1 h2 => h k h2 h1
theorem Apart.kept {u v : Value} (h : Apart u v) : u.ownBlock = none ∨ u.ownBlock ≠ v.ownBlock := by
  cases e : u.ownBlock with
  | none => exact .inl rfl
  | some k => exact .inr (fun e' => h k e e'.symm)
theorem apart_lies {u v : Value} {g n c H : Nat} (h : Apart u v) (hv : ∀ k, v.ownBlock = some k → k < H) (hat : u.ownBlock = some g ∨ g = H) : Apart (.slice (some ⟨g, 0, none⟩) n c) v := by
  intro k hk e
  simp only [Value.ownBlock, Option.some.injEq] at hk
  subst hk
  rcases hat with h1 | h1
  · exact h _ h1 e
  · have := hv _ e; omega
theorem rn (o : Option Nat) : o = none ∨ o ≠ none := by cases o <;> simp
theorem own_set {w : World} {B B' s n o : Nat} {E U : TypeId} {v u : Value} {xs : List Value} {cs : Array Value} (h : w.ownsRow B E s v n xs) (hb : Blk w B' cs U) (hU : U ≠ E) : (w.setCell ⟨B', o, none⟩ u).ownsRow B E s v n xs :=
  h.kept (gr_set (p := ⟨B', o, none⟩) (gr_refl w (some B')) (.inl rfl) u) (.inr (own_ne_blk h hb hU))
theorem l06Run_no {v : Value} {xs : List Int} (r s n : Int) (w : World) (hv : Ints w v xs) (hy : yearB r s xs n = false) :
    Calls Try.prog 61 #[.agg #[.int .i64 r, .int .i64 s, v, .int .i64 n]] w (RetY3 3 w [] [] []) := by
  have HV := hid hv
  obtain ⟨_, a, cap, rfl, hcap, hmax, hat⟩ := hv
  have HY := hid hy
  clear hat hy
  have HR : Hid (∀ W, Gr ((((((w.alloc (.cells #[.int .i64 r, .int .i64 s, .slice a xs.length cap, .int .i64 n] 27)).alloc (.cells #[] 3)).alloc (.cells #[] 3)).alloc (.cells #[] 3)).alloc (.cells #[.int .i64 r, .int .i64 s] 57))) W none → OwnI 3 W w.heap.size (.slice (some ⟨w.heap.size + 1, 0, none⟩) 0 0) [] ∧ OwnI 3 W w.heap.size (.slice (some ⟨w.heap.size + 1 + 1, 0, none⟩) 0 0) [] ∧ OwnI 3 W w.heap.size (.slice (some ⟨w.heap.size + 1 + 1 + 1, 0, none⟩) 0 0) [] ∧ Gr w W none) := fun W hg =>
    ⟨OwnI.on ⟨by simp, (((e_last _ _ _ _ _ (by simp) (by omega)).alloc _).alloc _).alloc _⟩ hg, OwnI.on ⟨by simp, ((e_last _ _ _ _ _ (by simp) (by omega)).alloc _).alloc _⟩ hg, OwnI.on ⟨by simp, (e_last _ _ _ _ _ (by simp) (by omega)).alloc _⟩ hg, gr_then (gr_alloc (gr_alloc (gr_alloc (gr_alloc (gr_alloc (gr_refl _ _) _) _) _) _) _) hg⟩
  by_cases h0 : xs.length = 0
  · have h0' : ¬ (0 : Int) < (xs.length : Int) := by omega
    have hn0 : xs.length = 0 := h0
    have HL := hid h0
    clear h0 hn0
    go_enter Try.func61, Try.ntmps61
    go_wp2_with fail
    refine Go.wp_loop_rounds 1 ?_
    rw [Go.rounds_succ]
    go_wp2
    go_ret3
    exact ⟨_, _, _, rfl, HR.out _ (gr_refl _ _)⟩
  · have h0' : (0 : Int) < (xs.length : Int) := by omega
    clear h0
    go_enter Try.func61, Try.ntmps61
    go_wp2_with fail
    refine Go.wp_loop_rounds 1 ?_
    rw [Go.rounds_succ]
    go_wp2_with fail
    refine (sYearOk_any _ _ _ _ (HV.out.on (gr_alloc (gr_alloc (gr_alloc (gr_alloc (gr_alloc (gr_refl _ _) _) _) _) _) _))).mono ?_
    rw [HY.out]
    rintro e w1 ⟨rfl, g1⟩
    have H1 := hid (HR.out _ g1)
    clear g1
    go_wp2
    go_ret3
    exact ⟨_, _, _, rfl, H1.out⟩
set_option maxHeartbeats 4000000 in
theorem l06Run_yes {v : Value} {xs : List Int} (r s n : Int) (w : World) (hv : Ints w v xs) (hy : yearB r s xs n = true) :
    Calls Try.prog 61 #[.agg #[.int .i64 r, .int .i64 s, v, .int .i64 n]] w (RetY3 3 w (levelsTo r s n xs xs.length) (daysTo (lostAt r s n xs) xs.length) (daysTo (drawnAt r s n xs) xs.length)) := by
  have HV := hid hv
  obtain ⟨_, a, cap, rfl, hcap, hmax, hat⟩ := hv
  unfold maxLen at hmax
  obtain ⟨hr, hs, hl, hx, hn⟩ := yearB_parts hy
  have HY := hid hy
  have HX := hid hx
  obtain ⟨i0, hi, hz0, hz1, hz2⟩ := info_parts info_int
  obtain ⟨b, off, rfl, hc⟩ : ∃ b off, a = some ⟨b, off, none⟩ ∧ IntsAt w b off xs := by
    rcases hat with h0 | h0
    · subst h0; simp at hl
    · exact h0
  have HC := hid hc
  have hlen' : (xs.length : Int) ≤ 400 := by omega
  have HI1 := hid (levels_i64 hy)
  have HI2 := hid (days_i64 (f := lostAt r s n xs) (k := xs.length) fun _ h => (day_bd hy h).2.2.1)
  have HI3 := hid (days_i64 (f := drawnAt r s n xs) (k := xs.length) fun _ h => (day_bd hy h).2.2.2.1)
  clear hy hx hat hc
  go_enter Try.func61, Try.ntmps61
  go_wp2_with fail
  have Y0 : Hid (Blk ((((((w.alloc (.cells #[.int .i64 r, .int .i64 s, .slice (some ⟨b, off, none⟩) xs.length cap, .int .i64 n] 27)).alloc (.cells #[] 3)).alloc (.cells #[] 3)).alloc (.cells #[] 3)).alloc (.cells #[.int .i64 r, .int .i64 s] 57))) w.heap.size #[.int .i64 r, .int .i64 s, .slice (some ⟨b, off, none⟩) xs.length cap, .int .i64 n] 27) := (blk_new w _ _).on (gr_alloc (gr_alloc (gr_alloc (gr_alloc (gr_refl _ _) _) _) _) _)
  have C0 : Hid (Blk ((((((w.alloc (.cells #[.int .i64 r, .int .i64 s, .slice (some ⟨b, off, none⟩) xs.length cap, .int .i64 n] 27)).alloc (.cells #[] 3)).alloc (.cells #[] 3)).alloc (.cells #[] 3)).alloc (.cells #[.int .i64 r, .int .i64 s] 57))) (w.heap.size + 1 + 1 + 1 + 1) #[.int .i64 r, .int .i64 s] 57) := by
    have := blk_new (((((w.alloc (.cells #[.int .i64 r, .int .i64 s, .slice (some ⟨b, off, none⟩) xs.length cap, .int .i64 n] 27)).alloc (.cells #[] 3)).alloc (.cells #[] 3)).alloc (.cells #[] 3))) #[.int .i64 r, .int .i64 s] 57
    simp only [World.size_alloc] at this
    exact this
  have R0 : Hid (((((((w.alloc (.cells #[.int .i64 r, .int .i64 s, .slice (some ⟨b, off, none⟩) xs.length cap, .int .i64 n] 27)).alloc (.cells #[] 3)).alloc (.cells #[] 3)).alloc (.cells #[] 3)).alloc (.cells #[.int .i64 r, .int .i64 s] 57))).ownsRow w.heap.size 3 1 (.slice (some ⟨w.heap.size + 1, 0, none⟩) 0 0) 0 [] ∧ ((((((w.alloc (.cells #[.int .i64 r, .int .i64 s, .slice (some ⟨b, off, none⟩) xs.length cap, .int .i64 n] 27)).alloc (.cells #[] 3)).alloc (.cells #[] 3)).alloc (.cells #[] 3)).alloc (.cells #[.int .i64 r, .int .i64 s] 57))).ownsRow w.heap.size 3 1 (.slice (some ⟨w.heap.size + 1 + 1, 0, none⟩) 0 0) 0 [] ∧ ((((((w.alloc (.cells #[.int .i64 r, .int .i64 s, .slice (some ⟨b, off, none⟩) xs.length cap, .int .i64 n] 27)).alloc (.cells #[] 3)).alloc (.cells #[] 3)).alloc (.cells #[] 3)).alloc (.cells #[.int .i64 r, .int .i64 s] 57))).ownsRow w.heap.size 3 1 (.slice (some ⟨w.heap.size + 1 + 1 + 1, 0, none⟩) 0 0) 0 []) :=
    ⟨(((e_last _ _ _ _ _ (by simp) (by omega)).alloc _).alloc _).alloc _, ((e_last _ _ _ _ _ (by simp) (by omega)).alloc _).alloc _, (e_last _ _ _ _ _ (by simp) (by omega)).alloc _⟩
  go_loopg [5, 6, 7, 9] (xs.length + 1) (fun gk p q t i wr => ∃ k : Nat, gk + k = xs.length + 1 ∧ k ≤ xs.length ∧ i = .int .i64 k ∧ wr.ownsRow w.heap.size 3 1 p k ((levelsTo r s n xs k).map (Value.int .i64)) ∧ wr.ownsRow w.heap.size 3 1 q k ((daysTo (lostAt r s n xs) k).map (Value.int .i64)) ∧ wr.ownsRow w.heap.size 3 1 t k ((daysTo (drawnAt r s n xs) k).map (Value.int .i64)) ∧ Apart p q ∧ Apart p t ∧ Apart q t ∧ Blk wr w.heap.size #[.int .i64 r, .int .i64 s, .slice (some ⟨b, off, none⟩) xs.length cap, .int .i64 n] 27 ∧ Blk wr (w.heap.size + 1 + 1 + 1 + 1) #[.int .i64 r, .int .i64 (levAt r s n xs k)] 57 ∧ Gr w wr none)
  case atStart => exact ⟨0, by omega, by omega, rfl, R0.out.1, R0.out.2.1, R0.out.2.2, by intro k h; simp [Value.ownBlock] at h ⊢; omega, by intro k h; simp [Value.ownBlock] at h ⊢; omega, by intro k h; simp [Value.ownBlock] at h ⊢; omega, Y0.out, C0.out, gr_alloc (gr_alloc (gr_alloc (gr_alloc (gr_alloc (gr_refl _ _) _) _) _) _) _⟩
  case round =>
    obtain ⟨k, hgk, hk, rfl, o1, o2, o3, ap12, ap13, ap23, hY, hC, hg⟩ := hrel
    have HGK := hid hgk
    clear hgk Y0 C0 R0
    have y0 := Go.Joins.cell_of_block hY 0
    have y1 := Go.Joins.cell_of_block hY 1
    have y2 := Go.Joins.cell_of_block hY 2
    have y3 := Go.Joins.cell_of_block hY 3
    simp at y0 y1 y2 y3
    by_cases hlt : k < xs.length
    · have hlt' : (k : Int) < xs.length := by omega
      obtain ⟨p1, q1, rfl⟩ := sl_own o1
      obtain ⟨p2, q2, rfl⟩ := sl_own o2
      obtain ⟨p3, q3, rfl⟩ := sl_own o3
      have HO := hid (And.intro o1 (And.intro o2 o3))
      have HAP := hid (And.intro ap12 (And.intro ap13 ap23))
      have HYB := hid hY
      have HCB := hid hC
      have HG := hid hg
      have hxk := HX.out k hlt
      obtain ⟨bd1, bd2, bd3, bd4, -⟩ := day_bd HY.out hlt
      have e1 : pourO r (levAt r s n xs k) (gi xs k) = lostAt r s n xs k := rfl
      have e2 : takeO r (pourL r (levAt r s n xs k) (gi xs k)) n = drawnAt r s n xs k := rfl
      have e3 : takeL r (pourL r (levAt r s n xs k) (gi xs k)) n = levAt r s n xs (k + 1) := rfl
      have L1 : Hid (levelsTo r s n xs (k + 1) = levelsTo r s n xs k ++ [levAt r s n xs (k + 1)]) := daysTo_succ _ _
      have L2' : Hid (daysTo (lostAt r s n xs) (k + 1) = daysTo (lostAt r s n xs) k ++ [lostAt r s n xs k]) := daysTo_succ _ _
      have L3 : Hid (daysTo (drawnAt r s n xs) (k + 1) = daysTo (drawnAt r s n xs) k ++ [drawnAt r s n xs k]) := daysTo_succ _ _
      have hcx0 := HC.out.kept hg (by simp) k hlt
      generalize hL2 : levAt r s n xs (k + 1) = L2 at *
      generalize levAt r s n xs k = L at *
      generalize gi xs k = X at *
      generalize hPL : pourL r L X = PL at *
      generalize lostAt r s n xs k = LO at *
      generalize drawnAt r s n xs k = DR at *
      have HL2 := hid hL2
      have HPL := hid hPL
      have E1 := hid e1
      have E2 := hid e2
      have E3 := hid e3
      clear e1 e2 e3 hY hC hg hL2 hPL o1 o2 o3 ap12 ap13 ap23
      go_wp2_with fail
      refine (sYearOk_any _ _ _ _ (HV.out.on HG.out)).mono ?_
      rw [HY.out]
      rintro e w1 ⟨rfl, g1⟩
      have Y1 := hid (HYB.out.on g1)
      have C1 := hid (HCB.out.on g1)
      have G1 := hid (gr_then HG.out g1)
      have c0' := Go.Joins.cell_of_block C1.out 0
      have c1' := Go.Joins.cell_of_block C1.out 1
      have z2 := Go.Joins.cell_of_block Y1.out 2
      simp at c0' c1' z2
      have hcx := World.grownBy.cell g1 hcx0 (by simp)
      have hi0 : (0 : Int) ≤ (k : Int) := by omega
      have HG1 := hid g1
      clear y0 y1 y2 y3 hcx0 g1
      have HK := hid (And.intro c0' (And.intro c1' (And.intro z2 (And.intro hcx (gr_drew (gr_refl w1 none))))))
      have HON : Hid (∀ W W' : World, (W.cell? ⟨w.heap.size + 1 + 1 + 1 + 1, 0, none⟩ = some (.int .i64 r) ∧ W.cell? ⟨w.heap.size + 1 + 1 + 1 + 1, 1, none⟩ = some (.int .i64 L) ∧ W.cell? ⟨w.heap.size, 2, none⟩ = some (.slice (some ⟨b, off, none⟩) xs.length cap) ∧ W.cell? ⟨b, off + k, none⟩ = some (.int .i64 X) ∧ Gr w1 W none) → Gr W W' none → (W'.cell? ⟨w.heap.size + 1 + 1 + 1 + 1, 0, none⟩ = some (.int .i64 r) ∧ W'.cell? ⟨w.heap.size + 1 + 1 + 1 + 1, 1, none⟩ = some (.int .i64 L) ∧ W'.cell? ⟨w.heap.size, 2, none⟩ = some (.slice (some ⟨b, off, none⟩) xs.length cap) ∧ W'.cell? ⟨b, off + k, none⟩ = some (.int .i64 X) ∧ Gr w1 W' none)) := fun W W' hh hg => ⟨World.grownBy.cell hg hh.1 (by simp), World.grownBy.cell hg hh.2.1 (by simp), World.grownBy.cell hg hh.2.2.1 (by simp), World.grownBy.cell hg hh.2.2.2.1 (by simp), gr_then hh.2.2.2.2 hg⟩
      have HSET : Hid (∀ (W : World) (B : Nat) (x y : Value), (W.cell? ⟨w.heap.size + 1 + 1 + 1 + 1, 0, none⟩ = some (.int .i64 r) ∧ W.cell? ⟨w.heap.size + 1 + 1 + 1 + 1, 1, none⟩ = some (.int .i64 L) ∧ W.cell? ⟨w.heap.size, 2, none⟩ = some (.slice (some ⟨b, off, none⟩) xs.length cap) ∧ W.cell? ⟨b, off + k, none⟩ = some (.int .i64 X) ∧ Gr w1 W none) → w1.heap.size ≤ B → (((W.setCell ⟨B, 0, none⟩ x).setCell ⟨B, 1, none⟩ y).cell? ⟨w.heap.size + 1 + 1 + 1 + 1, 0, none⟩ = some (.int .i64 r) ∧ ((W.setCell ⟨B, 0, none⟩ x).setCell ⟨B, 1, none⟩ y).cell? ⟨w.heap.size + 1 + 1 + 1 + 1, 1, none⟩ = some (.int .i64 L) ∧ ((W.setCell ⟨B, 0, none⟩ x).setCell ⟨B, 1, none⟩ y).cell? ⟨w.heap.size, 2, none⟩ = some (.slice (some ⟨b, off, none⟩) xs.length cap) ∧ ((W.setCell ⟨B, 0, none⟩ x).setCell ⟨B, 1, none⟩ y).cell? ⟨b, off + k, none⟩ = some (.int .i64 X) ∧ Gr w1 ((W.setCell ⟨B, 0, none⟩ x).setCell ⟨B, 1, none⟩ y) none)) := fun W B x y hh hB => by
        have q : Gr w1 ((W.setCell ⟨B, 0, none⟩ x).setCell ⟨B, 1, none⟩ y) none := gr_set (gr_set hh.2.2.2.2 (.inr hB) _) (.inr hB) _
        exact ⟨World.grownBy.cell q HK.out.1 (by simp), World.grownBy.cell q HK.out.2.1 (by simp), World.grownBy.cell q HK.out.2.2.1 (by simp), World.grownBy.cell q HK.out.2.2.2.1 (by simp), q⟩
      go_upto_region 8 with fail
      go_cut [10, 11] (fun p o wx => ∃ B, p = .pointer (some ⟨B, 0, none⟩) ∧ o = .int .i64 LO ∧ Blk wx B #[.int .i64 r, .int .i64 PL] 57 ∧ Gr w1 wx none ∧ w1.heap.size ≤ B)
      case first =>
        go_region_held3 (fun w' => w'.cell? ⟨w.heap.size + 1 + 1 + 1 + 1, 0, none⟩ = some (.int .i64 r) ∧ w'.cell? ⟨w.heap.size + 1 + 1 + 1 + 1, 1, none⟩ = some (.int .i64 L) ∧ w'.cell? ⟨w.heap.size, 2, none⟩ = some (.slice (some ⟨b, off, none⟩) xs.length cap) ∧ w'.cell? ⟨b, off + k, none⟩ = some (.int .i64 X) ∧ Gr w1 w' none)
          (first | exact HK.out | exact s2 | exact HON.out _ _ s2 (gr_alloc (gr_refl _ _) _) | exact HON.out _ _ (by assumption) (by assumption) | exact HON.out _ _ (by assumption) (gr_alloc (gr_refl _ _) _) | exact HON.out _ _ HK.out (gr_drew (gr_alloc (gr_refl _ _) _)) | exact HSET.out _ _ _ _ (by assumption) (Nat.le_refl _))
          (first
            | (go_at_call 76; refine (sPour_any _ _ _ _).mono ?_; rw [E1.out, HPL.out]; rintro e w2 ⟨rfl, g2⟩; have s2 := HON.out _ _ (by assumption) g2; have z2 : w1.heap.size ≤ w2.heap.size := Nat.le_trans (by simp) (gr_le g2); try (have B2 : Blk w2 w1.heap.size #[.int .i64 0, .int .i64 0] 57 := Blk.on (gr_drew (gr_refl _ _) |> Blk.on (blk_new w1 _ _)) g2; have t0 := Go.Joins.cell_of_block B2 0; have t1 := Go.Joins.cell_of_block B2 1; have t2 := Go.Joins.unfrozen_of_block B2 0; have t3 := Go.Joins.unfrozen_of_block B2 1; simp at t0 t1)))
        all_goals (
          go_wp2_with fail
          go_meet
          first
            | exact ⟨_, rfl, rfl, blk_new w2 _ _, gr_alloc s2.2.2.2.2 _, z2⟩
            | exact ⟨_, rfl, rfl, (by
                have b1 := Go.Joins.block_setCell B2 (i := 0) (.int .i64 r)
                have b2 := Go.Joins.block_setCell b1 (i := 1) (.int .i64 PL)
                unfold Blk; simpa using b2), gr_set (gr_set s2.2.2.2.2 (.inr (Nat.le_refl _)) _) (.inr (Nat.le_refl _)) _, Nat.le_refl _⟩)
      case rest =>
        obtain ⟨B, rfl, rfl, hB, gc, hBs⟩ := hcut
        have gw := gr_then HG1.out gc
        have Yc := HYB.out.on gw
        have Cc := HCB.out.on gw
        have Oc := hid (And.intro (HO.out.1.kept gw (rn _)) (And.intro (HO.out.2.1.kept gw (rn _)) (HO.out.2.2.kept gw (rn _))))
        have Gc := hid (gr_then HG.out gw)
        have x0 := Go.Joins.cell_of_block hB 0
        have x1 := Go.Joins.cell_of_block hB 1
        have x3 := Go.Joins.cell_of_block Yc 3
        simp at x0 x1 x3
        have HYc := hid Yc
        have HCc := hid Cc
        clear Yc Cc hB gc gw hBs c0' c1' z2 hcx HK HON HSET Y1 C1 G1 HG1 HYB HCB HO HG
        go_wp2_with fail
        refine (sTakeOut_any _ _ _ _).mono ?_
        rw [E3.out, E2.out]
        rintro e w3 ⟨rfl, g3⟩
        have C3 := HCc.out.on g3
        have Y3 := hid (HYc.out.on g3)
        have G3 := hid (gr_then Gc.out g3)
        have O3 := hid (And.intro (Oc.out.1.kept g3 (rn _)) (And.intro (Oc.out.2.1.kept g3 (rn _)) (Oc.out.2.2.kept g3 (rn _))))
        have c0' := Go.Joins.cell_of_block C3 0
        have c1' := Go.Joins.cell_of_block C3 1
        have f0' := Go.Joins.unfrozen_of_block C3 0
        have f1' := Go.Joins.unfrozen_of_block C3 1
        have l3 : w.heap.size + 1 + 1 + 1 + 1 < w3.heap.size := C3.lt
        have l3' : w.heap.size + 4 < w3.heap.size := C3.lt
        simp at c0' c1'
        have HC3 := hid C3
        clear C3 g3 x0 x1 x3 Oc Gc HYc HCc
        have b1 := Go.Joins.block_setCell HC3.out (i := 0) (.int .i64 r)
        have b2 := Go.Joins.block_setCell b1 (i := 1) (.int .i64 L2)
        have C4 : Blk (((((w3.setCell ⟨w.heap.size + 1 + 1 + 1 + 1, 0, none⟩ (.int .i64 r)).setCell ⟨w.heap.size + 1 + 1 + 1 + 1, 1, none⟩ (.int .i64 L2))).alloc (.cells #[.int .i64 r, .int .i64 L2] 57))) (w.heap.size + 1 + 1 + 1 + 1) #[.int .i64 r, .int .i64 L2] 57 := Blk.on (show Blk (((w3.setCell ⟨w.heap.size + 1 + 1 + 1 + 1, 0, none⟩ (.int .i64 r)).setCell ⟨w.heap.size + 1 + 1 + 1 + 1, 1, none⟩ (.int .i64 L2))) (w.heap.size + 1 + 1 + 1 + 1) #[.int .i64 r, .int .i64 L2] 57 by unfold Blk; simpa using b2) (gr_alloc (gr_refl _ _) _)
        have Y4 : Blk (((((w3.setCell ⟨w.heap.size + 1 + 1 + 1 + 1, 0, none⟩ (.int .i64 r)).setCell ⟨w.heap.size + 1 + 1 + 1 + 1, 1, none⟩ (.int .i64 L2))).alloc (.cells #[.int .i64 r, .int .i64 L2] 57))) w.heap.size #[.int .i64 r, .int .i64 s, .slice (some ⟨b, off, none⟩) xs.length cap, .int .i64 n] 27 := Blk.on (blk_set (blk_set Y3.out (by omega)) (by omega)) (gr_alloc (gr_refl _ _) _)
        have sh : ∀ (v : Value) (xs : List Value), w3.ownsRow w.heap.size 3 1 v k xs → (((((w3.setCell ⟨w.heap.size + 1 + 1 + 1 + 1, 0, none⟩ (.int .i64 r)).setCell ⟨w.heap.size + 1 + 1 + 1 + 1, 1, none⟩ (.int .i64 L2))).alloc (.cells #[.int .i64 r, .int .i64 L2] 57))).ownsRow w.heap.size 3 1 v k xs := fun v xs h => (own_set (own_set h HC3.out (by decide)) (show Blk (w3.setCell ⟨w.heap.size + 1 + 1 + 1 + 1, 0, none⟩ (.int .i64 r)) (w.heap.size + 1 + 1 + 1 + 1) _ 57 from b1) (by decide)).alloc _
        have R1 := sh _ _ O3.out.1
        have R2 := sh _ _ O3.out.2.1
        have R3 := sh _ _ O3.out.2.2
        have G4 : Gr w (((((w3.setCell ⟨w.heap.size + 1 + 1 + 1 + 1, 0, none⟩ (.int .i64 r)).setCell ⟨w.heap.size + 1 + 1 + 1 + 1, 1, none⟩ (.int .i64 L2))).alloc (.cells #[.int .i64 r, .int .i64 L2] 57))) none := gr_alloc (gr_set (gr_set G3.out (.inr (by simp; omega)) _) (.inr (by simp; omega)) _) _
        have HR := hid (And.intro R1 (And.intro R2 R3))
        have HB4 := hid (And.intro C4 (And.intro Y4 G4))
        have z4 : w.heap.size ≤ (((((w3.setCell ⟨w.heap.size + 1 + 1 + 1 + 1, 0, none⟩ (.int .i64 r)).setCell ⟨w.heap.size + 1 + 1 + 1 + 1, 1, none⟩ (.int .i64 L2))).alloc (.cells #[.int .i64 r, .int .i64 L2] 57))).heap.size + 1 := by simp; omega
        have hm : Hid (k + 1 ≤ maxLen) := by show k + 1 ≤ maxLen; unfold maxLen; omega
        clear b1 b2 C4 Y4 G4 R1 R2 R3 sh G3 O3 Y3
        go_wp2_with (at_builtin; refine wpList_append_lies _ rfl _ _ _ rfl w.heap.size 3 i0 (.int .i64 0) 1 8 Try.underlying22 hi hz0 hz1 hz2 rfl (by decide) (.slice p1 k q1) k _ rfl (HR.out.1.alloc _) ⟨w3.heap.size + 1, 0, none⟩ 1 1 [.int .i64 L2] rfl rfl (by have := new_one (((((w3.setCell ⟨w.heap.size + 1 + 1 + 1 + 1, 0, none⟩ (.int .i64 r)).setCell ⟨w.heap.size + 1 + 1 + 1 + 1, 1, none⟩ (.int .i64 L2))).alloc (.cells #[.int .i64 r, .int .i64 L2] 57))) (.int .i64 L2) 3; simpa using this) (one_int _) (by omega) hm.out (by omega) (by simpa using z4) _ rfl ?_)
        intro g1 cc1 w4 own4 grow4 hat4 lt4
        have r2 := (HR.out.2.1.alloc (.cells #[.int .i64 L2] 3)).kept grow4 HAP.out.1.symm.kept
        have r3 := (HR.out.2.2.alloc (.cells #[.int .i64 L2] 3)).kept grow4 HAP.out.2.1.symm.kept
        have a12 := apart_lies (H := w3.heap.size + 1 + 1) (n := k + 1) (c := cc1) HAP.out.1 (fun j hj => by have := ((HR.out.2.1.alloc (.cells #[.int .i64 L2] 3)).lt j hj).2; simpa using this) hat4
        have a13 := apart_lies (H := w3.heap.size + 1 + 1) (n := k + 1) (c := cc1) HAP.out.2.1 (fun j hj => by have := ((HR.out.2.2.alloc (.cells #[.int .i64 L2] 3)).lt j hj).2; simpa using this) hat4
        have bC := (HB4.out.1.on (gr_alloc (gr_refl _ _) (.cells #[.int .i64 L2] 3))).kept grow4 (own_ne_blk HR.out.1 HB4.out.1 (by decide))
        have bY := (HB4.out.2.1.on (gr_alloc (gr_refl _ _) (.cells #[.int .i64 L2] 3))).kept grow4 (own_ne_blk HR.out.1 HB4.out.2.1 (by decide))
        have bG := gr_trans (gr_alloc HB4.out.2.2 (.cells #[.int .i64 L2] 3)) grow4 (fun j e => .inr (HR.out.1.lt j e).1)
        have R4 := hid (And.intro own4 (And.intro r2 r3))
        have A4 := hid (And.intro a12 (And.intro a13 HAP.out.2.2))
        have B4 := hid (And.intro bC (And.intro bY bG))
        have z5 : w.heap.size ≤ w4.heap.size + 1 := by have := gr_le bG; omega
        clear own4 grow4 hat4 lt4 r2 r3 a12 a13 bC bY bG HR HAP HB4 z4 HC3 c0' c1' f0' f1'
        go_wp2_with (at_builtin; refine wpList_append_lies _ rfl _ _ _ rfl w.heap.size 3 i0 (.int .i64 0) 1 8 Try.underlying22 hi hz0 hz1 hz2 rfl (by decide) (.slice p2 k q2) k _ rfl (R4.out.2.1.alloc _) ⟨w4.heap.size, 0, none⟩ 1 1 [.int .i64 LO] rfl rfl (new_one _ _ _) (one_int _) (by omega) hm.out (by omega) (by simpa using z5) _ rfl ?_)
        intro g2 cc2 w5 own5 grow5 hat5 lt5
        have r1 := (R4.out.1.alloc (.cells #[.int .i64 LO] 3)).kept grow5 A4.out.1.kept
        have r3 := (R4.out.2.2.alloc (.cells #[.int .i64 LO] 3)).kept grow5 A4.out.2.2.symm.kept
        have a21 := apart_lies (H := w4.heap.size + 1) (n := k + 1) (c := cc2) A4.out.1.symm (fun j hj => by have := ((R4.out.1.alloc (.cells #[.int .i64 LO] 3)).lt j hj).2; simpa using this) hat5
        have a23 := apart_lies (H := w4.heap.size + 1) (n := k + 1) (c := cc2) A4.out.2.2 (fun j hj => by have := ((R4.out.2.2.alloc (.cells #[.int .i64 LO] 3)).lt j hj).2; simpa using this) hat5
        have bC := (B4.out.1.on (gr_alloc (gr_refl _ _) (.cells #[.int .i64 LO] 3))).kept grow5 (own_ne_blk R4.out.2.1 B4.out.1 (by decide))
        have bY := (B4.out.2.1.on (gr_alloc (gr_refl _ _) (.cells #[.int .i64 LO] 3))).kept grow5 (own_ne_blk R4.out.2.1 B4.out.2.1 (by decide))
        have bG := gr_trans (gr_alloc B4.out.2.2 (.cells #[.int .i64 LO] 3)) grow5 (fun j e => .inr (R4.out.2.1.lt j e).1)
        have R5 := hid (And.intro r1 (And.intro own5 r3))
        have A5 := hid (And.intro a21 (And.intro A4.out.2.1 a23))
        have B5 := hid (And.intro bC (And.intro bY bG))
        have z6 : w.heap.size ≤ w5.heap.size + 1 := by have := gr_le bG; omega
        clear own5 grow5 hat5 lt5 r1 r3 a21 a23 bC bY bG R4 A4 B4 z5
        go_wp2_with (at_builtin; refine wpList_append_lies _ rfl _ _ _ rfl w.heap.size 3 i0 (.int .i64 0) 1 8 Try.underlying22 hi hz0 hz1 hz2 rfl (by decide) (.slice p3 k q3) k _ rfl (R5.out.2.2.alloc _) ⟨w5.heap.size, 0, none⟩ 1 1 [.int .i64 DR] rfl rfl (new_one _ _ _) (one_int _) (by omega) hm.out (by omega) (by simpa using z6) _ rfl ?_)
        intro g3 cc3 w6 own6 grow6 hat6 lt6
        have r1 := (R5.out.1.alloc (.cells #[.int .i64 DR] 3)).kept grow6 A5.out.2.1.kept
        have r2 := (R5.out.2.1.alloc (.cells #[.int .i64 DR] 3)).kept grow6 A5.out.2.2.kept
        have a31 := apart_lies (H := w5.heap.size + 1) (n := k + 1) (c := cc3) A5.out.2.1.symm (fun j hj => by have := ((R5.out.1.alloc (.cells #[.int .i64 DR] 3)).lt j hj).2; simpa using this) hat6
        have a32 := apart_lies (H := w5.heap.size + 1) (n := k + 1) (c := cc3) A5.out.2.2.symm (fun j hj => by have := ((R5.out.2.1.alloc (.cells #[.int .i64 DR] 3)).lt j hj).2; simpa using this) hat6
        have bC := (B5.out.1.on (gr_alloc (gr_refl _ _) (.cells #[.int .i64 DR] 3))).kept grow6 (own_ne_blk R5.out.2.2 B5.out.1 (by decide))
        have bY := (B5.out.2.1.on (gr_alloc (gr_refl _ _) (.cells #[.int .i64 DR] 3))).kept grow6 (own_ne_blk R5.out.2.2 B5.out.2.1 (by decide))
        have bG := gr_trans (gr_alloc B5.out.2.2 (.cells #[.int .i64 DR] 3)) grow6 (fun j e => .inr (R5.out.2.2.lt j e).1)
        have R6 := hid (And.intro r1 (And.intro r2 own6))
        have A6 := hid (And.intro A5.out.1.symm (And.intro a31.symm a32.symm))
        have B6 := hid (And.intro bC (And.intro bY bG))
        clear own6 grow6 hat6 lt6 r1 r2 a31 a32 bC bY bG R5 A5 B5 z6
        go_wp2
        go_roundg (gk - 1)
        case measure => have := HGK.out; omega
        case rel => exact ⟨k + 1, by have := HGK.out; omega, by omega, by go_num, by rw [L1.out, List.map_append]; exact R6.out.1, by rw [L2'.out, List.map_append]; exact R6.out.2.1, by rw [L3.out, List.map_append]; exact R6.out.2.2, A6.out.1, A6.out.2.1, A6.out.2.2, B6.out.2.1, by rw [HL2.out]; exact B6.out.1, B6.out.2.2⟩
    · have hkl : k = xs.length := by omega
      subst hkl
      have F1 := hid (show OwnI 3 wr w.heap.size _ (levelsTo r s n xs xs.length) from ⟨HI1.out, by rw [show (levelsTo r s n xs xs.length).length = xs.length from daysTo_length _ _]; exact o1⟩)
      have F2 := hid (show OwnI 3 wr w.heap.size _ (daysTo (lostAt r s n xs) xs.length) from ⟨HI2.out, by rw [daysTo_length]; exact o2⟩)
      have F3 := hid (show OwnI 3 wr w.heap.size _ (daysTo (drawnAt r s n xs) xs.length) from ⟨HI3.out, by rw [daysTo_length]; exact o3⟩)
      have HG := hid hg
      clear o1 o2 o3 ap12 ap13 ap23 hY hC hg
      go_wp2
      go_ret3
      exact ⟨_, _, _, rfl, F1.out, F2.out, F3.out, HG.out⟩
theorem l06Run_any {v : Value} {xs : List Int} (r s n : Int) (w : World) (hv : Ints w v xs) :
    Calls Try.prog 61 #[.agg #[.int .i64 r, .int .i64 s, v, .int .i64 n]] w (RetY3 3 w (levelsV r s n xs) (lostL r s n xs) (drawnL r s n xs)) := by
  unfold levelsV lostL drawnL
  cases hy : yearB r s xs n
  · exact l06Run_no r s n w hv hy
  · exact l06Run_yes r s n w hv hy
end Go.Proofs.Ytmnfainepmnpeaa
