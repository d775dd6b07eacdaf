/- Pouring into a chain: the model's walk. -/
import Derived.Test.YtbbacodhklanjaaPin3
import Derived.Deep.RegionHeld3
namespace Go.Proofs.Ytbbacodhklanjaa
open Go.RowKit

theorem addr_ne {a b o o' : Nat} (h : a ≠ b) : (⟨a, o, none⟩ : Addr) ≠ ⟨b, o', none⟩ := fun e => h (congrArg Addr.block e)
set_option maxHeartbeats 2000000 in
theorem sPourInto_no {u v : Value} {ps : List (Int × Int)} {xs : List Int} (k x : Int) (w : World) (hu : Pairs w u ps) (hv : Ints w v xs) (h1 : ps.length ≤ 1048576) (h2 : xs.length ≤ 1048576) (hb : pinOk ps xs k x = false) :
    Calls Try.prog 45 #[.agg #[u, v], .int .i64 k, .int .i64 x] w (RetChX 25 3 w (ps, -1) xs) := by
  have HU := hid hu
  have HV := hid hv
  obtain ⟨_, a, cap, rfl, _, _, hat⟩ := hu
  obtain ⟨_, a', cap', rfl, _, _, hat'⟩ := hv
  clear hat hat'
  cases hc : chainB ps xs && inB k 0 ((ps.length : Int) - 1)
  · have hy0 : wayV ps xs k = [] := by simpa using wayV_false hc
    have HY := hid hy0
    clear hb hc hy0
    go_enter Try.func45, Try.ntmps45
    go_wp2_with fail
    refine (l05Copy_any _ (HU.out.on (by repeat (first | (with_reducible exact gr_refl _ _) | (with_reducible assumption) | (with_reducible refine gr_drew ?_) | (with_reducible refine gr_drewN ?_ _) | (with_reducible refine gr_alloc ?_ _) | (with_reducible refine gr_set ?_ (.inr (by simp; done)) _) | (with_reducible refine gr_set ?_ (.inr (by simp; omega)) _) | (with_reducible refine gr_then ?_ (by with_reducible assumption))))) (HV.out.on (by repeat (first | (with_reducible exact gr_refl _ _) | (with_reducible assumption) | (with_reducible refine gr_drew ?_) | (with_reducible refine gr_drewN ?_ _) | (with_reducible refine gr_alloc ?_ _) | (with_reducible refine gr_set ?_ (.inr (by simp; done)) _) | (with_reducible refine gr_set ?_ (.inr (by simp; omega)) _) | (with_reducible refine gr_then ?_ (by with_reducible assumption))))) h1 h2).mono ?_
    rintro e w1 ⟨u1, v1, rfl, o1, i1, g1⟩
    obtain ⟨a1, c1, rfl⟩ := sl_own o1.2
    obtain ⟨b1, d1, rfl⟩ := sl_own i1.2
    have z1 := gr_le g1
    simp only [World.size_alloc] at z1 o1 i1
    have k10 := (gr_cell g1 w.heap.size 0 (by simp; omega)).trans (by simp [go_sem] : _ = some (Value.slice a ps.length cap))
    have k11 := (gr_cell g1 w.heap.size 1 (by simp; omega)).trans (by simp [go_sem] : _ = some (Value.slice a' xs.length cap'))
    have s10 := (gr_cell g1 (w.heap.size + 1) 0 (by simp)).trans (by simp [go_sem] : _ = some (Value.slice none 0 0))
    have s11 := (gr_cell g1 (w.heap.size + 1) 1 (by simp)).trans (by simp [go_sem] : _ = some (Value.slice none 0 0))
    have f10 := (gr_frozen g1 (w.heap.size + 1) 0 (by simp)).trans (by simp [go_sem] : _ = false)
    have f11 := (gr_frozen g1 (w.heap.size + 1) 1 (by simp)).trans (by simp [go_sem] : _ = false)
    have G1 : Gr w w1 none := gr_then (gr_alloc (gr_alloc (gr_refl _ _) _) _) g1
    have l1 : w.heap.size < w1.heap.size := by omega
    have l2 : w.heap.size + 1 < w1.heap.size := by omega
    have O1 := hid o1
    have I1 := hid i1
    clear o1 i1 g1
    go_wp2_with fail
    refine (sWayOf_any _ _ (HU.out.on (by repeat (first | (with_reducible exact gr_refl _ _) | (with_reducible assumption) | (with_reducible refine gr_drew ?_) | (with_reducible refine gr_drewN ?_ _) | (with_reducible refine gr_alloc ?_ _) | (with_reducible refine gr_set ?_ (.inr (by simp; done)) _) | (with_reducible refine gr_set ?_ (.inr (by simp; omega)) _) | (with_reducible refine gr_then ?_ (by with_reducible assumption))))) (HV.out.on (by repeat (first | (with_reducible exact gr_refl _ _) | (with_reducible assumption) | (with_reducible refine gr_drew ?_) | (with_reducible refine gr_drewN ?_ _) | (with_reducible refine gr_alloc ?_ _) | (with_reducible refine gr_set ?_ (.inr (by simp; done)) _) | (with_reducible refine gr_set ?_ (.inr (by simp; omega)) _) | (with_reducible refine gr_then ?_ (by with_reducible assumption)))))).mono ?_
    rw [HY.out]
    rintro e w2 ⟨y2, rfl, oy, g2⟩
    obtain ⟨aq, cq, rfl⟩ := sl_own oy.2
    have z2 := gr_le g2
    simp only [World.size_alloc] at z2
    have m0 := (gr_cell g2 w1.heap.size 0 (by simp)).trans (by simp [go_sem] : _ = some (Value.slice a1 ps.length c1))
    have m1 := (gr_cell g2 w1.heap.size 1 (by simp)).trans (by simp [go_sem] : _ = some (Value.slice b1 xs.length d1))
    have t10 := (gr_cell (gr_then (gr_alloc (gr_refl w1 none) _) g2) (w.heap.size + 1) 0 (by omega)).trans s10
    have t11 := (gr_cell (gr_then (gr_alloc (gr_refl w1 none) _) g2) (w.heap.size + 1) 1 (by omega)).trans s11
    have q10 := (gr_frozen (gr_then (gr_alloc (gr_refl w1 none) _) g2) (w.heap.size + 1) 0 (by omega)).trans f10
    have q11 := (gr_frozen (gr_then (gr_alloc (gr_refl w1 none) _) g2) (w.heap.size + 1) 1 (by omega)).trans f11
    have G2 : Gr w w2 none := gr_then (gr_alloc G1 _) g2
    have O2 := hid (O1.out.on (gr_then (gr_alloc (gr_refl w1 none) _) g2))
    have I2 := hid (I1.out.on (gr_then (gr_alloc (gr_refl w1 none) _) g2))
    have OY := hid (OwnI.mono (B' := w1.heap.size) oy (by simp))
    have HLT : Hid (∀ j, (Value.slice a1 ps.length c1).ownBlock = some j → j < w1.heap.size ∧ w.heap.size + 2 ≤ j) := fun j hj => ⟨(O1.out.lt j hj).2, (O1.out.lt j hj).1⟩
    have l3 : w.heap.size + 1 < w2.heap.size := by omega
    clear k10 k11 s10 s11 f10 f11 g2 O1 I1 G1 oy
    have r0 : ((w2.setCell ⟨w.heap.size + 1, 0, none⟩ (.slice a1 ps.length c1)).setCell ⟨w.heap.size + 1, 1, none⟩ (.slice b1 xs.length d1)).cell? ⟨w.heap.size + 1, 0, none⟩ = some (.slice a1 ps.length c1) := set_other (by simp) (set_same t10)
    have r1 : ((w2.setCell ⟨w.heap.size + 1, 0, none⟩ (.slice a1 ps.length c1)).setCell ⟨w.heap.size + 1, 1, none⟩ (.slice b1 xs.length d1)).cell? ⟨w.heap.size + 1, 1, none⟩ = some (.slice b1 xs.length d1) := set_same (set_other (by simp) t11)
    have HF : Hid (OwnP 25 ((w2.setCell ⟨w.heap.size + 1, 0, none⟩ (.slice a1 ps.length c1)).setCell ⟨w.heap.size + 1, 1, none⟩ (.slice b1 xs.length d1)) w.heap.size (.slice a1 ps.length c1) ps ∧ OwnI 3 ((w2.setCell ⟨w.heap.size + 1, 0, none⟩ (.slice a1 ps.length c1)).setCell ⟨w.heap.size + 1, 1, none⟩ (.slice b1 xs.length d1)) w.heap.size (.slice b1 xs.length d1) xs ∧ Gr w ((w2.setCell ⟨w.heap.size + 1, 0, none⟩ (.slice a1 ps.length c1)).setCell ⟨w.heap.size + 1, 1, none⟩ (.slice b1 xs.length d1)) none) :=
      ⟨OwnP.mono' (B := w.heap.size + 2) ((O2.out.set (by simp) _).set (by simp) _) (by omega), OwnI.mono (B := w.heap.size + 2) ((I2.out.set (by simp) _).set (by simp) _) (by omega), gr_set (gr_set G2 (.inr (by simp)) _) (.inr (by simp)) _⟩
    clear G2 O2 I2 OY
    go_wp2
    exact bodyPost_ret (v := .tuple #[.agg #[.slice a1 ps.length c1, .slice b1 xs.length d1], .int .i64 (-1)]) (by simp [results, Try.results45, go_sem, r0, r1]) rfl ⟨_, _, rfl, HF.out⟩
  · have hx : inB x 0 1000000 = false := by
      cases hx : inB x 0 1000000
      · rfl
      · rw [pinOk, hc, hx] at hb; cases hb
    have hyf := (wayV_facts hc).1
    generalize hY : wayV ps xs k = ys at hyf
    have HY := hid hY
    have hl0 : ((ys.length : Int) == 0) = false := by have h9 : ys.length ≠ 0 := by omega
                                                      simpa using h9
    have HX := hid hx
    clear hb hc hx hY
    go_enter Try.func45, Try.ntmps45
    go_wp2_with fail
    refine (l05Copy_any _ (HU.out.on (by repeat (first | (with_reducible exact gr_refl _ _) | (with_reducible assumption) | (with_reducible refine gr_drew ?_) | (with_reducible refine gr_drewN ?_ _) | (with_reducible refine gr_alloc ?_ _) | (with_reducible refine gr_set ?_ (.inr (by simp; done)) _) | (with_reducible refine gr_set ?_ (.inr (by simp; omega)) _) | (with_reducible refine gr_then ?_ (by with_reducible assumption))))) (HV.out.on (by repeat (first | (with_reducible exact gr_refl _ _) | (with_reducible assumption) | (with_reducible refine gr_drew ?_) | (with_reducible refine gr_drewN ?_ _) | (with_reducible refine gr_alloc ?_ _) | (with_reducible refine gr_set ?_ (.inr (by simp; done)) _) | (with_reducible refine gr_set ?_ (.inr (by simp; omega)) _) | (with_reducible refine gr_then ?_ (by with_reducible assumption))))) h1 h2).mono ?_
    rintro e w1 ⟨u1, v1, rfl, o1, i1, g1⟩
    obtain ⟨a1, c1, rfl⟩ := sl_own o1.2
    obtain ⟨b1, d1, rfl⟩ := sl_own i1.2
    have z1 := gr_le g1
    simp only [World.size_alloc] at z1 o1 i1
    have k10 := (gr_cell g1 w.heap.size 0 (by simp; omega)).trans (by simp [go_sem] : _ = some (Value.slice a ps.length cap))
    have k11 := (gr_cell g1 w.heap.size 1 (by simp; omega)).trans (by simp [go_sem] : _ = some (Value.slice a' xs.length cap'))
    have s10 := (gr_cell g1 (w.heap.size + 1) 0 (by simp)).trans (by simp [go_sem] : _ = some (Value.slice none 0 0))
    have s11 := (gr_cell g1 (w.heap.size + 1) 1 (by simp)).trans (by simp [go_sem] : _ = some (Value.slice none 0 0))
    have f10 := (gr_frozen g1 (w.heap.size + 1) 0 (by simp)).trans (by simp [go_sem] : _ = false)
    have f11 := (gr_frozen g1 (w.heap.size + 1) 1 (by simp)).trans (by simp [go_sem] : _ = false)
    have G1 : Gr w w1 none := gr_then (gr_alloc (gr_alloc (gr_refl _ _) _) _) g1
    have l1 : w.heap.size < w1.heap.size := by omega
    have l2 : w.heap.size + 1 < w1.heap.size := by omega
    have O1 := hid o1
    have I1 := hid i1
    clear o1 i1 g1
    go_wp2_with fail
    refine (sWayOf_any _ _ (HU.out.on (by repeat (first | (with_reducible exact gr_refl _ _) | (with_reducible assumption) | (with_reducible refine gr_drew ?_) | (with_reducible refine gr_drewN ?_ _) | (with_reducible refine gr_alloc ?_ _) | (with_reducible refine gr_set ?_ (.inr (by simp; done)) _) | (with_reducible refine gr_set ?_ (.inr (by simp; omega)) _) | (with_reducible refine gr_then ?_ (by with_reducible assumption))))) (HV.out.on (by repeat (first | (with_reducible exact gr_refl _ _) | (with_reducible assumption) | (with_reducible refine gr_drew ?_) | (with_reducible refine gr_drewN ?_ _) | (with_reducible refine gr_alloc ?_ _) | (with_reducible refine gr_set ?_ (.inr (by simp; done)) _) | (with_reducible refine gr_set ?_ (.inr (by simp; omega)) _) | (with_reducible refine gr_then ?_ (by with_reducible assumption)))))).mono ?_
    rw [HY.out]
    rintro e w2 ⟨y2, rfl, oy, g2⟩
    obtain ⟨aq, cq, rfl⟩ := sl_own oy.2
    have z2 := gr_le g2
    simp only [World.size_alloc] at z2
    have m0 := (gr_cell g2 w1.heap.size 0 (by simp)).trans (by simp [go_sem] : _ = some (Value.slice a1 ps.length c1))
    have m1 := (gr_cell g2 w1.heap.size 1 (by simp)).trans (by simp [go_sem] : _ = some (Value.slice b1 xs.length d1))
    have t10 := (gr_cell (gr_then (gr_alloc (gr_refl w1 none) _) g2) (w.heap.size + 1) 0 (by omega)).trans s10
    have t11 := (gr_cell (gr_then (gr_alloc (gr_refl w1 none) _) g2) (w.heap.size + 1) 1 (by omega)).trans s11
    have q10 := (gr_frozen (gr_then (gr_alloc (gr_refl w1 none) _) g2) (w.heap.size + 1) 0 (by omega)).trans f10
    have q11 := (gr_frozen (gr_then (gr_alloc (gr_refl w1 none) _) g2) (w.heap.size + 1) 1 (by omega)).trans f11
    have G2 : Gr w w2 none := gr_then (gr_alloc G1 _) g2
    have O2 := hid (O1.out.on (gr_then (gr_alloc (gr_refl w1 none) _) g2))
    have I2 := hid (I1.out.on (gr_then (gr_alloc (gr_refl w1 none) _) g2))
    have OY := hid (OwnI.mono (B' := w1.heap.size) oy (by simp))
    have HLT : Hid (∀ j, (Value.slice a1 ps.length c1).ownBlock = some j → j < w1.heap.size ∧ w.heap.size + 2 ≤ j) := fun j hj => ⟨(O1.out.lt j hj).2, (O1.out.lt j hj).1⟩
    have l3 : w.heap.size + 1 < w2.heap.size := by omega
    clear k10 k11 s10 s11 f10 f11 g2 O1 I1 G1 oy
    have r0 : ((w2.setCell ⟨w.heap.size + 1, 0, none⟩ (.slice a1 ps.length c1)).setCell ⟨w.heap.size + 1, 1, none⟩ (.slice b1 xs.length d1)).cell? ⟨w.heap.size + 1, 0, none⟩ = some (.slice a1 ps.length c1) := set_other (by simp) (set_same t10)
    have r1 : ((w2.setCell ⟨w.heap.size + 1, 0, none⟩ (.slice a1 ps.length c1)).setCell ⟨w.heap.size + 1, 1, none⟩ (.slice b1 xs.length d1)).cell? ⟨w.heap.size + 1, 1, none⟩ = some (.slice b1 xs.length d1) := set_same (set_other (by simp) t11)
    have HF : Hid (OwnP 25 ((w2.setCell ⟨w.heap.size + 1, 0, none⟩ (.slice a1 ps.length c1)).setCell ⟨w.heap.size + 1, 1, none⟩ (.slice b1 xs.length d1)) w.heap.size (.slice a1 ps.length c1) ps ∧ OwnI 3 ((w2.setCell ⟨w.heap.size + 1, 0, none⟩ (.slice a1 ps.length c1)).setCell ⟨w.heap.size + 1, 1, none⟩ (.slice b1 xs.length d1)) w.heap.size (.slice b1 xs.length d1) xs ∧ Gr w ((w2.setCell ⟨w.heap.size + 1, 0, none⟩ (.slice a1 ps.length c1)).setCell ⟨w.heap.size + 1, 1, none⟩ (.slice b1 xs.length d1)) none) :=
      ⟨OwnP.mono' (B := w.heap.size + 2) ((O2.out.set (by simp) _).set (by simp) _) (by omega), OwnI.mono (B := w.heap.size + 2) ((I2.out.set (by simp) _).set (by simp) _) (by omega), gr_set (gr_set G2 (.inr (by simp)) _) (.inr (by simp)) _⟩
    clear G2 O2 I2 OY
    go_wp2_with (go_at_call 60; refine (l04Water_any _ _).mono ?_; rw [HX.out]; rintro e w' ⟨rfl, rfl⟩)
    exact bodyPost_ret (v := .tuple #[.agg #[.slice a1 ps.length c1, .slice b1 xs.length d1], .int .i64 (-1)]) (by simp [results, Try.results45, go_sem, r0, r1]) rfl ⟨_, _, rfl, HF.out⟩
set_option maxHeartbeats 4000000 in
theorem sPourInto_yes {u v : Value} {ps : List (Int × Int)} {xs : List Int} (k x : Int) (w : World) (hu : Pairs w u ps) (hv : Ints w v xs) (h1 : ps.length ≤ 1048576) (h2 : xs.length ≤ 1048576) (hc : chainB ps xs = true) (hk : inB k 0 ((ps.length : Int) - 1) = true) (hx : inB x 0 1000000 = true) :
    Calls Try.prog 45 #[.agg #[u, v], .int .i64 k, .int .i64 x] w (RetChX 25 3 w (pinTo ps (wayV ps xs k) x (wayV ps xs k).length) xs) := by
  have HU := hid hu
  have HV := hid hv
  obtain ⟨_, a, cap, rfl, _, _, hat⟩ := hu
  obtain ⟨_, a', cap', rfl, _, _, hat'⟩ := hv
  clear hat hat'
  have hxb := inB_true hx
  obtain ⟨hn, -, -, hca, -⟩ := chainB_parts hc
  have hb : (chainB ps xs && inB k 0 ((ps.length : Int) - 1)) = true := by rw [hc, hk]; rfl
  obtain ⟨hyf, hyl, hyr⟩ := wayV_facts hb
  generalize hY : wayV ps xs k = ys at hyf hyl hyr ⊢
  have HY := hid hY
  have HX := hid hx
  have HOK := hid (pinTo_ok (ys := ys) hca hxb.1 hxb.2 hyr)
  have HYR := hid hyr
  have hpl : ps.length ≤ 10 := by omega
  have hpl' : (ps.length : Int) ≤ 10 := by omega
  have hyl' : (ys.length : Int) ≤ 10 := by omega
  have hp1 : 0 < ps.length := by omega
  have hl0 : ((ys.length : Int) == 0) = false := by have h9 : ys.length ≠ 0 := by omega
                                                    simpa using h9
  clear hk hx hxb hc hb hca hn hY hyr
  go_enter Try.func45, Try.ntmps45
  go_wp2_with fail
  refine (l05Copy_any _ (HU.out.on (by repeat (first | (with_reducible exact gr_refl _ _) | (with_reducible assumption) | (with_reducible refine gr_drew ?_) | (with_reducible refine gr_drewN ?_ _) | (with_reducible refine gr_alloc ?_ _) | (with_reducible refine gr_set ?_ (.inr (by simp; done)) _) | (with_reducible refine gr_set ?_ (.inr (by simp; omega)) _) | (with_reducible refine gr_then ?_ (by with_reducible assumption))))) (HV.out.on (by repeat (first | (with_reducible exact gr_refl _ _) | (with_reducible assumption) | (with_reducible refine gr_drew ?_) | (with_reducible refine gr_drewN ?_ _) | (with_reducible refine gr_alloc ?_ _) | (with_reducible refine gr_set ?_ (.inr (by simp; done)) _) | (with_reducible refine gr_set ?_ (.inr (by simp; omega)) _) | (with_reducible refine gr_then ?_ (by with_reducible assumption))))) h1 h2).mono ?_
  rintro e w1 ⟨u1, v1, rfl, o1, i1, g1⟩
  obtain ⟨a1, c1, rfl⟩ := sl_own o1.2
  obtain ⟨b1, d1, rfl⟩ := sl_own i1.2
  have z1 := gr_le g1
  simp only [World.size_alloc] at z1 o1 i1
  have k10 := (gr_cell g1 w.heap.size 0 (by simp; omega)).trans (by simp [go_sem] : _ = some (Value.slice a ps.length cap))
  have k11 := (gr_cell g1 w.heap.size 1 (by simp; omega)).trans (by simp [go_sem] : _ = some (Value.slice a' xs.length cap'))
  have s10 := (gr_cell g1 (w.heap.size + 1) 0 (by simp)).trans (by simp [go_sem] : _ = some (Value.slice none 0 0))
  have s11 := (gr_cell g1 (w.heap.size + 1) 1 (by simp)).trans (by simp [go_sem] : _ = some (Value.slice none 0 0))
  have f10 := (gr_frozen g1 (w.heap.size + 1) 0 (by simp)).trans (by simp [go_sem] : _ = false)
  have f11 := (gr_frozen g1 (w.heap.size + 1) 1 (by simp)).trans (by simp [go_sem] : _ = false)
  have G1 : Gr w w1 none := gr_then (gr_alloc (gr_alloc (gr_refl _ _) _) _) g1
  have l1 : w.heap.size < w1.heap.size := by omega
  have l2 : w.heap.size + 1 < w1.heap.size := by omega
  have O1 := hid o1
  have I1 := hid i1
  clear o1 i1 g1
  go_wp2_with fail
  refine (sWayOf_any _ _ (HU.out.on (by repeat (first | (with_reducible exact gr_refl _ _) | (with_reducible assumption) | (with_reducible refine gr_drew ?_) | (with_reducible refine gr_drewN ?_ _) | (with_reducible refine gr_alloc ?_ _) | (with_reducible refine gr_set ?_ (.inr (by simp; done)) _) | (with_reducible refine gr_set ?_ (.inr (by simp; omega)) _) | (with_reducible refine gr_then ?_ (by with_reducible assumption))))) (HV.out.on (by repeat (first | (with_reducible exact gr_refl _ _) | (with_reducible assumption) | (with_reducible refine gr_drew ?_) | (with_reducible refine gr_drewN ?_ _) | (with_reducible refine gr_alloc ?_ _) | (with_reducible refine gr_set ?_ (.inr (by simp; done)) _) | (with_reducible refine gr_set ?_ (.inr (by simp; omega)) _) | (with_reducible refine gr_then ?_ (by with_reducible assumption)))))).mono ?_
  rw [HY.out]
  rintro e w2 ⟨y2, rfl, oy, g2⟩
  obtain ⟨aq, cq, rfl⟩ := sl_own oy.2
  have z2 := gr_le g2
  simp only [World.size_alloc] at z2
  have m0 := (gr_cell g2 w1.heap.size 0 (by simp)).trans (by simp [go_sem] : _ = some (Value.slice a1 ps.length c1))
  have m1 := (gr_cell g2 w1.heap.size 1 (by simp)).trans (by simp [go_sem] : _ = some (Value.slice b1 xs.length d1))
  have t10 := (gr_cell (gr_then (gr_alloc (gr_refl w1 none) _) g2) (w.heap.size + 1) 0 (by omega)).trans s10
  have t11 := (gr_cell (gr_then (gr_alloc (gr_refl w1 none) _) g2) (w.heap.size + 1) 1 (by omega)).trans s11
  have q10 := (gr_frozen (gr_then (gr_alloc (gr_refl w1 none) _) g2) (w.heap.size + 1) 0 (by omega)).trans f10
  have q11 := (gr_frozen (gr_then (gr_alloc (gr_refl w1 none) _) g2) (w.heap.size + 1) 1 (by omega)).trans f11
  have G2 : Gr w w2 none := gr_then (gr_alloc G1 _) g2
  have O2 := hid (O1.out.on (gr_then (gr_alloc (gr_refl w1 none) _) g2))
  have I2 := hid (I1.out.on (gr_then (gr_alloc (gr_refl w1 none) _) g2))
  have OY := hid (OwnI.mono (B' := w1.heap.size) oy (by simp))
  have HLT : Hid (∀ j, (Value.slice a1 ps.length c1).ownBlock = some j → j < w1.heap.size ∧ w.heap.size + 2 ≤ j) := fun j hj => ⟨(O1.out.lt j hj).2, (O1.out.lt j hj).1⟩
  have l3 : w.heap.size + 1 < w2.heap.size := by omega
  clear k10 k11 s10 s11 f10 f11 g2 O1 I1 G1 oy
  go_wp2_with (go_at_call 60; refine (l04Water_any _ _).mono ?_; rw [HX.out]; rintro e w' ⟨rfl, rfl⟩)
  have CP : CpInv w w2 := ⟨G2, by omega, ⟨_, t10⟩, ⟨_, t11⟩, q10, q11⟩
  clear t10 t11 q10 q11 G2
  obtain ⟨g, hg1⟩ : ∃ g, a1 = some ⟨g, 0, none⟩ := by
    rcases O2.out.2.2 with ⟨e, e2⟩ | ⟨g, cap, cur, e, _⟩
    · omega
    · simp only [Value.slice.injEq] at e; exact ⟨g, e.1⟩
  subst hg1
  have hgl := HLT.out g rfl
  have HAP := hid (apart_types I2.out.2 O2.out.2 (by decide : (3 : TypeId) ≠ 25))
  obtain ⟨bq, oq, hb2, hcy⟩ : ∃ b off, aq = some ⟨b, off, none⟩ ∧ IntsAt w2 b off ys := by
    obtain ⟨_, aa, cc, e, _, _, hh⟩ := OY.out.ints
    simp only [Value.slice.injEq] at e
    obtain ⟨rfl, _, rfl⟩ := e
    rcases hh with hh | hh
    · subst hh; simp at hyf
    · exact hh
  subst hb2
  have hbg : bq ≠ g := by have := (OY.out.lt bq rfl).1; omega
  have HCY := hid hcy
  have HM := hid (And.intro m0 (And.intro m1 (And.intro CP z2)))
  have HBG := hid hbg
  have hqc : ys.length ≤ cq := by
    obtain ⟨_, aa, cc, e, h, _, _⟩ := OY.out.ints
    simp only [Value.slice.injEq] at e
    omega
  have OWN0 : Hid (w2.ownsRow (w.heap.size + 1 + 1) 25 2 (.slice (some ⟨g, 0, none⟩) ps.length c1) ps.length (pcells (pinTo ps ys x 0).1)) := O2.out.2
  clear m0 m1 CP hcy hbg
  go_wp2_with fail
  go_loopg [2, 10] (ys.length + 1) (fun gk y i wr => ∃ j : Nat, gk + j = ys.length + 1 ∧ j ≤ ys.length ∧ i = .int .i64 j ∧ y = .int .i64 (pinTo ps ys x j).2 ∧ wr.ownsRow (w.heap.size + 1 + 1) 25 2 (.slice (some ⟨g, 0, none⟩) ps.length c1) ps.length (pcells (pinTo ps ys x j).1) ∧ Gr w2 wr (some g))
  case atStart => exact ⟨0, by omega, by omega, rfl, rfl, OWN0.out, gr_refl _ _⟩
  case round =>
    obtain ⟨j, hg', hj, rfl, rfl, hown, hg⟩ := hrel
    have HGK := hid hg'
    clear hg'
    have k0 := (gr_cellr hg (b := w1.heap.size) (o := 0) (by omega) (by simp; omega)).trans HM.out.1
    have k1 := (gr_cellr hg (b := w1.heap.size) (o := 1) (by omega) (by simp; omega)).trans HM.out.2.1
    by_cases hlt : j < ys.length
    · have hlt' : (j : Int) < ys.length := by omega
      obtain ⟨hq0, hq1⟩ := HYR.out j hlt
      have c0 := HCY.out j hlt
      have hcyj := (gr_cellr hg (World.block_lt_of_cell? _ _ c0) (by simp; exact Ne.symm HBG.out)).trans c0
      obtain ⟨ok1, ok2, ok3⟩ := HOK.out j (by omega)
      have hlen := pinTo_length ps ys x j
      have E : Hid (pinTo ps ys x (j + 1) = (pinS (pinTo ps ys x j).1 (gi ys j).toNat (pinTo ps ys x j).2, pinO (pinTo ps ys x j).1 (gi ys j).toNat (pinTo ps ys x j).2)) := hid rfl
      obtain ⟨q, hq⟩ := Int.eq_ofNat_of_zero_le hq0
      rw [hq] at hcyj hq1 E
      rw [Int.toNat_natCast] at E
      have hqp : q < ps.length := by omega
      have hqp' : (q : Int) < ps.length := by omega
      generalize pinTo ps ys x j = R at *
      obtain ⟨P, X⟩ := R
      simp only at ok1 ok2 ok3 hlen hown E ⊢
      have hcr := cistB_true (cistAll_get ok1 (i := q) (by omega))
      obtain ⟨e0, e1⟩ := pcells_get P q (by omega)
      have d0 := (hown.cellAt (q * 2) (by omega)).trans e0
      have d1' := (hown.cellAt (q * 2 + 1) (by omega)).trans e1
      have f0 := hown.frozenAt (q * 2)
      have f1 := hown.frozenAt (q * 2 + 1)
      have HOWN := hid hown
      have hP : pinS P q X = P.set q ((gp P q).1, pourL (gp P q).1 (gp P q).2 X) := rfl
      have hO : pinO P q X = pourO (gp P q).1 (gp P q).2 X := rfl
      have HP := hid hP
      have HO := hid hO
      clear hq hq0 c0 hlen e0 e1 hown hP hO ok1
      generalize (gp P q).1 = rr at *
      generalize (gp P q).2 = ll at *
      generalize hpl2 : pourL rr ll X = LL at *
      generalize hpo2 : pourO rr ll X = OO at *
      have HPL := hid hpl2
      have HPO := hid hpo2
      have HD := hid (And.intro d0 (And.intro d1' (And.intro f0 f1)))
      clear hpl2 hpo2
      have HON : Hid (∀ W W' : World, (W.cell? ⟨w1.heap.size, 0, none⟩ = some (.slice (some ⟨g, 0, none⟩) ps.length c1) ∧ W.cell? ⟨bq, oq + j, none⟩ = some (.int .i64 q) ∧ Gr w2 W (some g)) → Gr W W' none → (W'.cell? ⟨w1.heap.size, 0, none⟩ = some (.slice (some ⟨g, 0, none⟩) ps.length c1) ∧ W'.cell? ⟨bq, oq + j, none⟩ = some (.int .i64 q) ∧ Gr w2 W' (some g))) := fun W W' hh hg => ⟨World.grownBy.cell hg hh.1 (by simp), World.grownBy.cell hg hh.2.1 (by simp), gr_then hh.2.2 hg⟩
      have HSET : Hid (∀ (W : World) (x y : Value), (W.cell? ⟨w1.heap.size, 0, none⟩ = some (.slice (some ⟨g, 0, none⟩) ps.length c1) ∧ W.cell? ⟨bq, oq + j, none⟩ = some (.int .i64 q) ∧ Gr w2 W (some g)) → (((W.setCell ⟨g, q * 2, none⟩ x).setCell ⟨g, q * 2 + 1, none⟩ y).cell? ⟨w1.heap.size, 0, none⟩ = some (.slice (some ⟨g, 0, none⟩) ps.length c1) ∧ ((W.setCell ⟨g, q * 2, none⟩ x).setCell ⟨g, q * 2 + 1, none⟩ y).cell? ⟨bq, oq + j, none⟩ = some (.int .i64 q) ∧ Gr w2 ((W.setCell ⟨g, q * 2, none⟩ x).setCell ⟨g, q * 2 + 1, none⟩ y) (some g))) := fun W x y hh =>
        ⟨set_other (addr_ne (by omega)) (set_other (addr_ne (by omega)) hh.1), set_other (addr_ne (Ne.symm HBG.out)) (set_other (addr_ne (Ne.symm HBG.out)) hh.2.1), gr_set (p := ⟨g, q * 2 + 1, none⟩) (gr_set (p := ⟨g, q * 2, none⟩) hh.2.2 (.inl rfl) _) (.inl rfl) _⟩
      have HA : Hid (wr.drew.cell? ⟨w1.heap.size, 0, none⟩ = some (.slice (some ⟨g, 0, none⟩) ps.length c1) ∧ wr.drew.cell? ⟨bq, oq + j, none⟩ = some (.int .i64 q) ∧ Gr w2 wr.drew (some g)) := ⟨k0, hcyj, gr_drew hg⟩
      clear k0 k1 hcyj hg
      go_wp2_with fail
      refine wp_region_noPanic ?_
      refine wp_region_held_drew (S := fun w' => w'.cell? ⟨w1.heap.size, 0, none⟩ = some (.slice (some ⟨g, 0, none⟩) ps.length c1) ∧ w'.cell? ⟨bq, oq + j, none⟩ = some (.int .i64 q) ∧ Gr w2 w' (some g)) (by kernel_rfl) HA.out (fun hHeld => ?_)
      (refine wpAnyH_take (i := 0) (v := ?_) rfl (by kernel_rfl) (by kernel_rfl) (by kernel_rfl) (fun _ _ _ h => h) (Or.inl ⟨by rfl, ?_⟩) (by assumption) ?_; rotate_left; · (intro w hSw; (try dsimp only at hSw); go_simp <;> with_reducible rfl); try simp only [Act.put, List.setIfInBounds_toArray, List.set_cons_zero, List.set_cons_succ])
      (refine wpAnyH_take (i := 1) (v := ?_) rfl (by kernel_rfl) (by kernel_rfl) (by kernel_rfl) (fun _ _ _ h => h) (Or.inl ⟨by rfl, ?_⟩) (by assumption) ?_; rotate_left; · (intro w hSw; (try dsimp only at hSw); go_simp <;> with_reducible rfl); try simp only [Act.put, List.setIfInBounds_toArray, List.set_cons_zero, List.set_cons_succ])
      (refine wpAnyH_take (i := 2) (v := ?_) rfl (by kernel_rfl) (by kernel_rfl) (by kernel_rfl) (fun _ _ _ h => h) (Or.inl ⟨by rfl, ?_⟩) (by assumption) ?_; rotate_left; · (intro w hSw; (try dsimp only at hSw); go_simp <;> with_reducible rfl); try simp only [Act.put, List.setIfInBounds_toArray, List.set_cons_zero, List.set_cons_succ])
      (refine wpAnyH_take (i := 3) (v := ?_) rfl (by kernel_rfl) (by kernel_rfl) (by kernel_rfl) (fun _ _ _ h => h) (Or.inl ⟨by rfl, ?_⟩) (by assumption) ?_; rotate_left; · (intro w hSw; (try dsimp only at hSw); go_simp <;> with_reducible rfl); try simp only [Act.put, List.setIfInBounds_toArray, List.set_cons_zero, List.set_cons_succ])
      (refine wpAnyH_take (i := 4) (v := ?_) rfl (by kernel_rfl) (by kernel_rfl) (by kernel_rfl) (fun _ _ _ h => h) (Or.inl ⟨by rfl, ?_⟩) (by assumption) ?_; rotate_left; · (intro w hSw; (try dsimp only at hSw); go_simp <;> with_reducible rfl); try simp only [Act.put, List.setIfInBounds_toArray, List.set_cons_zero, List.set_cons_succ])
      (refine wpAnyH_take (i := 5) (v := ?_) rfl (by kernel_rfl) (by kernel_rfl) (by kernel_rfl) (fun _ _ _ h => h) (Or.inl ⟨by rfl, ?_⟩) (by assumption) ?_; rotate_left; · (intro w hSw; (try dsimp only at hSw); go_simp <;> with_reducible rfl); try simp only [Act.put, List.setIfInBounds_toArray, List.set_cons_zero, List.set_cons_succ])
      (refine wpAnyH_take (i := 6) (v := ?_) rfl (by kernel_rfl) (by kernel_rfl) (by kernel_rfl) (fun _ _ _ h => h) (Or.inl ⟨by rfl, ?_⟩) (by assumption) ?_; rotate_left; · (intro w hSw; (try dsimp only at hSw); go_simp <;> with_reducible rfl); try simp only [Act.put, List.setIfInBounds_toArray, List.set_cons_zero, List.set_cons_succ])
      (refine wpAnyH_take (i := 7) (v := ?_) rfl (by kernel_rfl) (by kernel_rfl) (by kernel_rfl) (fun _ _ _ h => h) (Or.inl ⟨by rfl, ?_⟩) (by assumption) ?_; rotate_left; · (intro w hSw; (try dsimp only at hSw); go_simp <;> with_reducible rfl); try simp only [Act.put, List.setIfInBounds_toArray, List.set_cons_zero, List.set_cons_succ])
      (refine wpAnyH_take (i := 8) (v := ?_) rfl (by kernel_rfl) (by kernel_rfl) (by kernel_rfl) (fun _ _ _ h => h) (Or.inl ⟨by rfl, ?_⟩) (by assumption) ?_; rotate_left; · (intro w hSw; (try dsimp only at hSw); go_simp <;> with_reducible rfl); try simp only [Act.put, List.setIfInBounds_toArray, List.set_cons_zero, List.set_cons_succ])
      (refine wpAnyH_take (i := 9) (v := ?_) rfl (by kernel_rfl) (by kernel_rfl) (by kernel_rfl) (fun _ _ _ h => h) (Or.inl ⟨by rfl, ?_⟩) (by assumption) ?_; rotate_left; · (intro w hSw; (try dsimp only at hSw); go_simp <;> with_reducible rfl); try simp only [Act.put, List.setIfInBounds_toArray, List.set_cons_zero, List.set_cons_succ])
      (refine wpAnyH_take (i := 10) (v := ?_) rfl (by kernel_rfl) (by kernel_rfl) (by kernel_rfl) (fun _ _ _ h => h) (Or.inl ⟨by rfl, ?_⟩) (by assumption) ?_; rotate_left; · (intro w hSw; (try dsimp only at hSw); go_simp <;> with_reducible rfl); try simp only [Act.put, List.setIfInBounds_toArray, List.set_cons_zero, List.set_cons_succ])
      (refine wpAnyH_take (i := 11) (v := ?_) rfl (by kernel_rfl) (by kernel_rfl) (by kernel_rfl) (fun _ _ _ h => h) (Or.inl ⟨by rfl, ?_⟩) (by assumption) ?_; rotate_left; · (intro w hSw; (try dsimp only at hSw); go_simp <;> with_reducible rfl); try simp only [Act.put, List.setIfInBounds_toArray, List.set_cons_zero, List.set_cons_succ])
      (refine wpAnyH_take (i := 12) (v := ?_) rfl (by kernel_rfl) (by kernel_rfl) (by kernel_rfl) (fun _ _ _ h => h) (Or.inl ⟨by rfl, ?_⟩) (by assumption) ?_; rotate_left; · (intro w hSw; (try dsimp only at hSw); go_simp <;> with_reducible rfl); try simp only [Act.put, List.setIfInBounds_toArray, List.set_cons_zero, List.set_cons_succ])
      (refine wpAnyH_take (i := 14) (v := ?_) rfl (by kernel_rfl) (by kernel_rfl) (by kernel_rfl) (fun _ _ _ h => h) (Or.inl ⟨by rfl, ?_⟩) (by assumption) ?_; rotate_left; · (intro w hSw; (try dsimp only at hSw); go_simp <;> with_reducible rfl); try simp only [Act.put, List.setIfInBounds_toArray, List.set_cons_zero, List.set_cons_succ])
      refine wpAnyH_ready (rs := [13]) (by kernel_rfl) (by simp) ?_
      refine AllReadyH.cons rfl (fun K hK => ?_) AllReadyH.nil
      go_simp
      refine hK.out _ _ (HON.out _ _ hHeld (gr_refl _ _)) (fun hHeld => ?_)
      clear hK K
      try simp only [Act.put, List.setIfInBounds_toArray, List.set_cons_zero, List.set_cons_succ]
      refine wpAnyH_ready (rs := [15]) (by kernel_rfl) (by simp) ?_
      refine AllReadyH.cons rfl (fun K hK => ?_) AllReadyH.nil
      go_simp
      refine (sPour_any _ _ _ _).mono ?_; rw [HPL.out, HPO.out]; rintro e w3 ⟨rfl, g3⟩; have g3' := g3; have G3 := gr_then (gr_drew (gr_refl wr none)) g3; have y2 := World.grownBy.cell G3 HD.out.1 (by simp); have y3 := World.grownBy.cell G3 HD.out.2.1 (by simp); have y4 := (gr_frozen G3 g (q * 2) (World.block_lt_of_cell? _ _ HD.out.1)).trans HD.out.2.2.1; have y5 := (gr_frozen G3 g (q * 2 + 1) (World.block_lt_of_cell? _ _ HD.out.1)).trans HD.out.2.2.2
      go_wp2_with fail
      refine hK.out _ _ (HON.out _ _ hHeld g3') (fun hHeld => ?_)
      clear hK K
      try simp only [Act.put, List.setIfInBounds_toArray, List.set_cons_zero, List.set_cons_succ]
      (refine wpAnyH_take (i := 16) (v := ?_) rfl (by kernel_rfl) (by kernel_rfl) (by kernel_rfl) (fun _ _ _ h => h) (Or.inl ⟨by rfl, ?_⟩) (by assumption) ?_; rotate_left; · (intro w hSw; (try dsimp only at hSw); go_simp <;> with_reducible rfl); try simp only [Act.put, List.setIfInBounds_toArray, List.set_cons_zero, List.set_cons_succ])
      (refine wpAnyH_take (i := 17) (v := ?_) rfl (by kernel_rfl) (by kernel_rfl) (by kernel_rfl) (fun _ _ _ h => h) (Or.inl ⟨by rfl, ?_⟩) (by assumption) ?_; rotate_left; · (intro w hSw; (try dsimp only at hSw); go_simp <;> with_reducible rfl); try simp only [Act.put, List.setIfInBounds_toArray, List.set_cons_zero, List.set_cons_succ])
      (refine wpAnyH_take (i := 18) (v := ?_) rfl (by kernel_rfl) (by kernel_rfl) (by kernel_rfl) (fun _ _ _ h => h) (Or.inl ⟨by rfl, ?_⟩) (by assumption) ?_; rotate_left; · (intro w hSw; (try dsimp only at hSw); go_simp <;> with_reducible rfl); try simp only [Act.put, List.setIfInBounds_toArray, List.set_cons_zero, List.set_cons_succ])
      (refine wpAnyH_take (i := 19) (v := ?_) rfl (by kernel_rfl) (by kernel_rfl) (by kernel_rfl) (fun _ _ _ h => h) (Or.inl ⟨by rfl, ?_⟩) (by assumption) ?_; rotate_left; · (intro w hSw; (try dsimp only at hSw); go_simp <;> with_reducible rfl); try simp only [Act.put, List.setIfInBounds_toArray, List.set_cons_zero, List.set_cons_succ])
      refine wpAnyH_ready (rs := [20]) (by kernel_rfl) (by simp) ?_
      refine AllReadyH.cons rfl (fun K hK => ?_) AllReadyH.nil
      go_simp
      refine hK.out _ _ (HSET.out _ _ _ hHeld) (fun hHeld => ?_)
      clear hK K
      try simp only [Act.put, List.setIfInBounds_toArray, List.set_cons_zero, List.set_cons_succ]
      (refine wpAnyH_take (i := 21) (v := ?_) rfl (by kernel_rfl) (by kernel_rfl) (by kernel_rfl) (fun _ _ _ h => h) (Or.inl ⟨by rfl, ?_⟩) (by assumption) ?_; rotate_left; · (intro w hSw; (try dsimp only at hSw); go_simp <;> with_reducible rfl); try simp only [Act.put, List.setIfInBounds_toArray, List.set_cons_zero, List.set_cons_succ])
      refine wpAnyH_done (by kernel_rfl) ?_ _
      refine NoPanic.normal ?_
      have gw := hHeld.2.2
      have o3 := HOWN.out.kept G3 (.inr (by simp [Value.ownBlock]))
      have o4 := (o3.stored (q * 2) (.int .i64 rr)).1
      have o5 := (o4.stored (q * 2 + 1) (.int .i64 LL)).1
      rw [pcells_set] at o5
      have O5 := hid o5
      have GW := hid gw
      clear hHeld o3 o4 o5 gw y2 y3 y4 y5 g3' g3 G3 d0 d1' f0 f1
      go_wp2
      go_roundg (gk - 1)
      case measure => have := HGK.out; omega
      case rel => exact ⟨j + 1, by have := HGK.out; omega, by omega, by go_num, by rw [E.out]; show _ = Value.int .i64 (pinO P q X); rw [HO.out], by rw [E.out]; show World.ownsRow _ _ _ _ _ _ (pcells (pinS P q X)); rw [HP.out]; exact O5.out, GW.out⟩
    · have hkl : j = ys.length := by omega
      subst hkl
      have hlen' := pinTo_length ps ys x ys.length
      have ok1 := (HOK.out ys.length (Nat.le_refl _)).1
      generalize hR : pinTo ps ys x ys.length = R at *
      obtain ⟨P, X⟩ := R
      simp only at hlen' hown ok1 ⊢
      obtain ⟨hG, hz, ⟨x0, t10⟩, ⟨x1, t11⟩, q10, q11⟩ := HM.out.2.2.1.row hg (by omega)
      have r0 : ((wr.setCell ⟨w.heap.size + 1, 0, none⟩ (.slice (some ⟨g, 0, none⟩) ps.length c1)).setCell ⟨w.heap.size + 1, 1, none⟩ (.slice b1 xs.length d1)).cell? ⟨w.heap.size + 1, 0, none⟩ = some (.slice (some ⟨g, 0, none⟩) ps.length c1) := set_other (by simp) (set_same t10)
      have r1 : ((wr.setCell ⟨w.heap.size + 1, 0, none⟩ (.slice (some ⟨g, 0, none⟩) ps.length c1)).setCell ⟨w.heap.size + 1, 1, none⟩ (.slice b1 xs.length d1)).cell? ⟨w.heap.size + 1, 1, none⟩ = some (.slice b1 xs.length d1) := set_same (set_other (by simp) t11)
      have hown' : OwnP 25 wr (w.heap.size + 1 + 1) (.slice (some ⟨g, 0, none⟩) ps.length c1) P := ⟨cist_i64 ok1, by rw [hlen']; exact hown⟩
      have hI := I2.out.kept hg HAP.out
      have HF : Hid (OwnP 25 ((wr.setCell ⟨w.heap.size + 1, 0, none⟩ (.slice (some ⟨g, 0, none⟩) ps.length c1)).setCell ⟨w.heap.size + 1, 1, none⟩ (.slice b1 xs.length d1)) w.heap.size (.slice (some ⟨g, 0, none⟩) ps.length c1) P ∧ OwnI 3 ((wr.setCell ⟨w.heap.size + 1, 0, none⟩ (.slice (some ⟨g, 0, none⟩) ps.length c1)).setCell ⟨w.heap.size + 1, 1, none⟩ (.slice b1 xs.length d1)) w.heap.size (.slice b1 xs.length d1) xs ∧ Gr w ((wr.setCell ⟨w.heap.size + 1, 0, none⟩ (.slice (some ⟨g, 0, none⟩) ps.length c1)).setCell ⟨w.heap.size + 1, 1, none⟩ (.slice b1 xs.length d1)) none) :=
        ⟨OwnP.mono' (B := w.heap.size + 1 + 1) ((hown'.set (by simp) _).set (by simp) _) (by omega), OwnI.mono (B := w.heap.size + 1 + 1) ((hI.set (by simp) _).set (by simp) _) (by omega), gr_set (gr_set hG (.inr (by simp)) _) (.inr (by simp)) _⟩
      clear hown hown' hI hlen' ok1 hG hR hg
      go_wp2
      exact bodyPost_ret (v := .tuple #[.agg #[.slice (some ⟨g, 0, none⟩) ps.length c1, .slice b1 xs.length d1], .int .i64 X]) (by simp [results, Try.results45, go_sem, r0, r1]) rfl ⟨_, _, rfl, HF.out⟩
theorem sPourInto_any {u v : Value} {ps : List (Int × Int)} {xs : List Int} (k x : Int) (w : World) (hu : Pairs w u ps) (hv : Ints w v xs) (h1 : ps.length ≤ 1048576) (h2 : xs.length ≤ 1048576) :
    Calls Try.prog 45 #[.agg #[u, v], .int .i64 k, .int .i64 x] w (RetChX 25 3 w (pinV ps xs k x) xs) := by
  cases hb : pinOk ps xs k x
  · rw [pinV, hb]
    exact sPourInto_no k x w hu hv h1 h2 hb
  · rw [pinV, hb, if_pos rfl]
    simp only [pinOk, Bool.and_eq_true] at hb
    exact sPourInto_yes k x w hu hv h1 h2 hb.1.1 hb.1.2 hb.2
end Go.Proofs.Ytbbacodhklanjaa
