/- Pouring into a chain: the program's walk. -/
import Derived.Test.YtbmgmolnknnaiaaPin1
import Derived.Deep.LoopGhost
import Derived.Deep.RegionWith
namespace Go.Proofs.Ytbmgmolnknnaiaa
open Go.RowKit

def RetChX (C I : TypeId) (w : World) (p : List (Int × Int) × Int) (xs : List Int) (e : Ending) (w' : World) : Prop :=
  ∃ u v, e = .returned (.tuple #[.agg #[u, v], .int .i64 p.2]) ∧ OwnP C w' w.heap.size u p.1 ∧ OwnI I w' w.heap.size v xs ∧ Gr w w' none
theorem CpInv.row {w a b : World} {g : Nat} (h : CpInv w a) (hg : Gr a b (some g)) (hl : w.heap.size + 2 ≤ g) : CpInv w b := by
  obtain ⟨h1, h2, ⟨x, h3⟩, ⟨y, h4⟩, h5, h6⟩ := h
  have := gr_le hg
  exact ⟨gr_trans h1 hg (fun j e => by cases e; exact .inr (by omega)), by omega, ⟨x, (gr_cellr hg (by omega) (by simp; omega)).trans h3⟩, ⟨y, (gr_cellr hg (by omega) (by simp; omega)).trans h4⟩, (gr_frozenr hg (by omega) (by simp; omega)).trans h5, (gr_frozenr hg (by omega) (by simp; omega)).trans h6⟩
set_option maxHeartbeats 2000000 in
theorem pourInto_no {u v : Value} {ps : List (Int × Int)} {xs : List Int} (k x : Int) (w : World) (hu : Pairs w u ps) (hv : Ints w v xs) (h1 : ps.length ≤ 1048576) (h2 : xs.length ≤ 1048576) (hb : pinOk ps xs k x = false) :
    Calls Try.prog 19 #[.agg #[u, v], .int .i64 k, .int .i64 x] w (RetChX 24 3 w (ps, -1) xs) := by
  have HU := hid hu
  have HV := hid hv
  obtain ⟨_, a, cap, rfl, _, _, hat⟩ := hu
  obtain ⟨_, a', cap', rfl, _, _, hat'⟩ := hv
  clear hat hat'
  cases hc : chainB ps xs && inB k 0 ((ps.length : Int) - 1)
  · have HC := hid hc
    clear hb hc
    go_enter Try.func19, Try.ntmps19
    go_wp2_with fail
    refine (copyChain_any _ (HU.out.on (by repeat (first | (with_reducible exact gr_refl _ _) | (with_reducible assumption) | (with_reducible refine gr_drew ?_) | (with_reducible refine gr_drewN ?_ _) | (with_reducible refine gr_alloc ?_ _) | (with_reducible refine gr_set ?_ (.inr (by simp; done)) _) | (with_reducible refine gr_set ?_ (.inr (by simp; omega)) _) | (with_reducible refine gr_then ?_ (by with_reducible assumption))))) (HV.out.on (by repeat (first | (with_reducible exact gr_refl _ _) | (with_reducible assumption) | (with_reducible refine gr_drew ?_) | (with_reducible refine gr_drewN ?_ _) | (with_reducible refine gr_alloc ?_ _) | (with_reducible refine gr_set ?_ (.inr (by simp; done)) _) | (with_reducible refine gr_set ?_ (.inr (by simp; omega)) _) | (with_reducible refine gr_then ?_ (by with_reducible assumption))))) h1 h2).mono ?_
    rintro e w1 ⟨u1, v1, rfl, o1, i1, g1⟩
    obtain ⟨a1, c1, rfl⟩ := sl_own o1.2
    obtain ⟨b1, d1, rfl⟩ := sl_own i1.2
    have z1 := gr_le g1
    simp only [World.size_alloc] at z1 o1 i1
    have k10 := (gr_cell g1 w.heap.size 0 (by simp; omega)).trans (by simp [go_sem] : _ = some (Value.slice a ps.length cap))
    have k11 := (gr_cell g1 w.heap.size 1 (by simp; omega)).trans (by simp [go_sem] : _ = some (Value.slice a' xs.length cap'))
    have s10 := (gr_cell g1 (w.heap.size + 1) 0 (by simp)).trans (by simp [go_sem] : _ = some (Value.slice none 0 0))
    have s11 := (gr_cell g1 (w.heap.size + 1) 1 (by simp)).trans (by simp [go_sem] : _ = some (Value.slice none 0 0))
    have f10 := (gr_frozen g1 (w.heap.size + 1) 0 (by simp)).trans (by simp [go_sem] : _ = false)
    have f11 := (gr_frozen g1 (w.heap.size + 1) 1 (by simp)).trans (by simp [go_sem] : _ = false)
    have G1 : Gr w w1 none := gr_then (gr_alloc (gr_alloc (gr_refl _ _) _) _) g1
    have l1 : w.heap.size < w1.heap.size := by omega
    have l2 : w.heap.size + 1 < w1.heap.size := by omega
    have O1 := hid o1
    have I1 := hid i1
    clear o1 i1 g1
    go_wp2_with fail
    refine (isCistern_any _ _ (HU.out.on (by repeat (first | (with_reducible exact gr_refl _ _) | (with_reducible assumption) | (with_reducible refine gr_drew ?_) | (with_reducible refine gr_drewN ?_ _) | (with_reducible refine gr_alloc ?_ _) | (with_reducible refine gr_set ?_ (.inr (by simp; done)) _) | (with_reducible refine gr_set ?_ (.inr (by simp; omega)) _) | (with_reducible refine gr_then ?_ (by with_reducible assumption))))) (HV.out.on (by repeat (first | (with_reducible exact gr_refl _ _) | (with_reducible assumption) | (with_reducible refine gr_drew ?_) | (with_reducible refine gr_drewN ?_ _) | (with_reducible refine gr_alloc ?_ _) | (with_reducible refine gr_set ?_ (.inr (by simp; done)) _) | (with_reducible refine gr_set ?_ (.inr (by simp; omega)) _) | (with_reducible refine gr_then ?_ (by with_reducible assumption)))))).mono ?_
    rw [HC.out]
    rintro e w2 ⟨rfl, g2⟩
    have z2 := gr_le g2
    simp only [World.size_alloc] at z2
    have m0 := (gr_cell g2 w1.heap.size 0 (by simp)).trans (by simp [go_sem] : _ = some (Value.slice a1 ps.length c1))
    have m1 := (gr_cell g2 w1.heap.size 1 (by simp)).trans (by simp [go_sem] : _ = some (Value.slice b1 xs.length d1))
    have t10 := (gr_cell (gr_then (gr_alloc (gr_refl w1 none) _) g2) (w.heap.size + 1) 0 (by omega)).trans s10
    have t11 := (gr_cell (gr_then (gr_alloc (gr_refl w1 none) _) g2) (w.heap.size + 1) 1 (by omega)).trans s11
    have q10 := (gr_frozen (gr_then (gr_alloc (gr_refl w1 none) _) g2) (w.heap.size + 1) 0 (by omega)).trans f10
    have q11 := (gr_frozen (gr_then (gr_alloc (gr_refl w1 none) _) g2) (w.heap.size + 1) 1 (by omega)).trans f11
    have G2 : Gr w w2 none := gr_then (gr_alloc G1 _) g2
    have O2 := hid (O1.out.on (gr_then (gr_alloc (gr_refl w1 none) _) g2))
    have I2 := hid (I1.out.on (gr_then (gr_alloc (gr_refl w1 none) _) g2))
    have l3 : w.heap.size + 1 < w2.heap.size := by omega
    clear k10 k11 s10 s11 f10 f11 g2 O1 I1 G1
    have r0 : ((w2.setCell ⟨w.heap.size + 1, 0, none⟩ (.slice a1 ps.length c1)).setCell ⟨w.heap.size + 1, 1, none⟩ (.slice b1 xs.length d1)).cell? ⟨w.heap.size + 1, 0, none⟩ = some (.slice a1 ps.length c1) := set_other (by simp) (set_same t10)
    have r1 : ((w2.setCell ⟨w.heap.size + 1, 0, none⟩ (.slice a1 ps.length c1)).setCell ⟨w.heap.size + 1, 1, none⟩ (.slice b1 xs.length d1)).cell? ⟨w.heap.size + 1, 1, none⟩ = some (.slice b1 xs.length d1) := set_same (set_other (by simp) t11)
    have HF : Hid (OwnP 24 ((w2.setCell ⟨w.heap.size + 1, 0, none⟩ (.slice a1 ps.length c1)).setCell ⟨w.heap.size + 1, 1, none⟩ (.slice b1 xs.length d1)) w.heap.size (.slice a1 ps.length c1) ps ∧ OwnI 3 ((w2.setCell ⟨w.heap.size + 1, 0, none⟩ (.slice a1 ps.length c1)).setCell ⟨w.heap.size + 1, 1, none⟩ (.slice b1 xs.length d1)) w.heap.size (.slice b1 xs.length d1) xs ∧ Gr w ((w2.setCell ⟨w.heap.size + 1, 0, none⟩ (.slice a1 ps.length c1)).setCell ⟨w.heap.size + 1, 1, none⟩ (.slice b1 xs.length d1)) none) :=
      ⟨OwnP.mono' (B := w.heap.size + 2) ((O2.out.set (by simp) _).set (by simp) _) (by omega), OwnI.mono (B := w.heap.size + 2) ((I2.out.set (by simp) _).set (by simp) _) (by omega), gr_set (gr_set G2 (.inr (by simp)) _) (.inr (by simp)) _⟩
    clear G2 O2 I2
    go_wp2
    exact bodyPost_ret (v := .tuple #[.agg #[.slice a1 ps.length c1, .slice b1 xs.length d1], .int .i64 (-1)]) (by simp [results, Try.results19, go_sem, r0, r1]) rfl ⟨_, _, rfl, HF.out⟩
  · have hx : inB x 0 1000000 = false := by
      cases hx : inB x 0 1000000
      · rfl
      · rw [pinOk, hc, hx] at hb; cases hb
    have HC := hid hc
    have HX := hid hx
    clear hb hc hx
    go_enter Try.func19, Try.ntmps19
    go_wp2_with fail
    refine (copyChain_any _ (HU.out.on (by repeat (first | (with_reducible exact gr_refl _ _) | (with_reducible assumption) | (with_reducible refine gr_drew ?_) | (with_reducible refine gr_drewN ?_ _) | (with_reducible refine gr_alloc ?_ _) | (with_reducible refine gr_set ?_ (.inr (by simp; done)) _) | (with_reducible refine gr_set ?_ (.inr (by simp; omega)) _) | (with_reducible refine gr_then ?_ (by with_reducible assumption))))) (HV.out.on (by repeat (first | (with_reducible exact gr_refl _ _) | (with_reducible assumption) | (with_reducible refine gr_drew ?_) | (with_reducible refine gr_drewN ?_ _) | (with_reducible refine gr_alloc ?_ _) | (with_reducible refine gr_set ?_ (.inr (by simp; done)) _) | (with_reducible refine gr_set ?_ (.inr (by simp; omega)) _) | (with_reducible refine gr_then ?_ (by with_reducible assumption))))) h1 h2).mono ?_
    rintro e w1 ⟨u1, v1, rfl, o1, i1, g1⟩
    obtain ⟨a1, c1, rfl⟩ := sl_own o1.2
    obtain ⟨b1, d1, rfl⟩ := sl_own i1.2
    have z1 := gr_le g1
    simp only [World.size_alloc] at z1 o1 i1
    have k10 := (gr_cell g1 w.heap.size 0 (by simp; omega)).trans (by simp [go_sem] : _ = some (Value.slice a ps.length cap))
    have k11 := (gr_cell g1 w.heap.size 1 (by simp; omega)).trans (by simp [go_sem] : _ = some (Value.slice a' xs.length cap'))
    have s10 := (gr_cell g1 (w.heap.size + 1) 0 (by simp)).trans (by simp [go_sem] : _ = some (Value.slice none 0 0))
    have s11 := (gr_cell g1 (w.heap.size + 1) 1 (by simp)).trans (by simp [go_sem] : _ = some (Value.slice none 0 0))
    have f10 := (gr_frozen g1 (w.heap.size + 1) 0 (by simp)).trans (by simp [go_sem] : _ = false)
    have f11 := (gr_frozen g1 (w.heap.size + 1) 1 (by simp)).trans (by simp [go_sem] : _ = false)
    have G1 : Gr w w1 none := gr_then (gr_alloc (gr_alloc (gr_refl _ _) _) _) g1
    have l1 : w.heap.size < w1.heap.size := by omega
    have l2 : w.heap.size + 1 < w1.heap.size := by omega
    have O1 := hid o1
    have I1 := hid i1
    clear o1 i1 g1
    go_wp2_with fail
    refine (isCistern_any _ _ (HU.out.on (by repeat (first | (with_reducible exact gr_refl _ _) | (with_reducible assumption) | (with_reducible refine gr_drew ?_) | (with_reducible refine gr_drewN ?_ _) | (with_reducible refine gr_alloc ?_ _) | (with_reducible refine gr_set ?_ (.inr (by simp; done)) _) | (with_reducible refine gr_set ?_ (.inr (by simp; omega)) _) | (with_reducible refine gr_then ?_ (by with_reducible assumption))))) (HV.out.on (by repeat (first | (with_reducible exact gr_refl _ _) | (with_reducible assumption) | (with_reducible refine gr_drew ?_) | (with_reducible refine gr_drewN ?_ _) | (with_reducible refine gr_alloc ?_ _) | (with_reducible refine gr_set ?_ (.inr (by simp; done)) _) | (with_reducible refine gr_set ?_ (.inr (by simp; omega)) _) | (with_reducible refine gr_then ?_ (by with_reducible assumption)))))).mono ?_
    rw [HC.out]
    rintro e w2 ⟨rfl, g2⟩
    have z2 := gr_le g2
    simp only [World.size_alloc] at z2
    have m0 := (gr_cell g2 w1.heap.size 0 (by simp)).trans (by simp [go_sem] : _ = some (Value.slice a1 ps.length c1))
    have m1 := (gr_cell g2 w1.heap.size 1 (by simp)).trans (by simp [go_sem] : _ = some (Value.slice b1 xs.length d1))
    have t10 := (gr_cell (gr_then (gr_alloc (gr_refl w1 none) _) g2) (w.heap.size + 1) 0 (by omega)).trans s10
    have t11 := (gr_cell (gr_then (gr_alloc (gr_refl w1 none) _) g2) (w.heap.size + 1) 1 (by omega)).trans s11
    have q10 := (gr_frozen (gr_then (gr_alloc (gr_refl w1 none) _) g2) (w.heap.size + 1) 0 (by omega)).trans f10
    have q11 := (gr_frozen (gr_then (gr_alloc (gr_refl w1 none) _) g2) (w.heap.size + 1) 1 (by omega)).trans f11
    have G2 : Gr w w2 none := gr_then (gr_alloc G1 _) g2
    have O2 := hid (O1.out.on (gr_then (gr_alloc (gr_refl w1 none) _) g2))
    have I2 := hid (I1.out.on (gr_then (gr_alloc (gr_refl w1 none) _) g2))
    have l3 : w.heap.size + 1 < w2.heap.size := by omega
    clear k10 k11 s10 s11 f10 f11 g2 O1 I1 G1
    have r0 : ((w2.setCell ⟨w.heap.size + 1, 0, none⟩ (.slice a1 ps.length c1)).setCell ⟨w.heap.size + 1, 1, none⟩ (.slice b1 xs.length d1)).cell? ⟨w.heap.size + 1, 0, none⟩ = some (.slice a1 ps.length c1) := set_other (by simp) (set_same t10)
    have r1 : ((w2.setCell ⟨w.heap.size + 1, 0, none⟩ (.slice a1 ps.length c1)).setCell ⟨w.heap.size + 1, 1, none⟩ (.slice b1 xs.length d1)).cell? ⟨w.heap.size + 1, 1, none⟩ = some (.slice b1 xs.length d1) := set_same (set_other (by simp) t11)
    have HF : Hid (OwnP 24 ((w2.setCell ⟨w.heap.size + 1, 0, none⟩ (.slice a1 ps.length c1)).setCell ⟨w.heap.size + 1, 1, none⟩ (.slice b1 xs.length d1)) w.heap.size (.slice a1 ps.length c1) ps ∧ OwnI 3 ((w2.setCell ⟨w.heap.size + 1, 0, none⟩ (.slice a1 ps.length c1)).setCell ⟨w.heap.size + 1, 1, none⟩ (.slice b1 xs.length d1)) w.heap.size (.slice b1 xs.length d1) xs ∧ Gr w ((w2.setCell ⟨w.heap.size + 1, 0, none⟩ (.slice a1 ps.length c1)).setCell ⟨w.heap.size + 1, 1, none⟩ (.slice b1 xs.length d1)) none) :=
      ⟨OwnP.mono' (B := w.heap.size + 2) ((O2.out.set (by simp) _).set (by simp) _) (by omega), OwnI.mono (B := w.heap.size + 2) ((I2.out.set (by simp) _).set (by simp) _) (by omega), gr_set (gr_set G2 (.inr (by simp)) _) (.inr (by simp)) _⟩
    clear G2 O2 I2
    go_wp2_with (go_at_call 29; refine (within0_any _ _).mono ?_; rw [HX.out]; rintro e w' ⟨rfl, rfl⟩)
    exact bodyPost_ret (v := .tuple #[.agg #[.slice a1 ps.length c1, .slice b1 xs.length d1], .int .i64 (-1)]) (by simp [results, Try.results19, go_sem, r0, r1]) rfl ⟨_, _, rfl, HF.out⟩
set_option maxHeartbeats 4000000 in
theorem pourInto_yes {u v : Value} {ps : List (Int × Int)} {xs : List Int} (n : Nat) (x : Int) (w : World) (hu : Pairs w u ps) (hv : Ints w v xs) (h1 : ps.length ≤ 1048576) (h2 : xs.length ≤ 1048576) (hc : chainB ps xs = true) (hk : inB (n : Int) 0 ((ps.length : Int) - 1) = true) (hx : inB x 0 1000000 = true) :
    Calls Try.prog 19 #[.agg #[u, v], .int .i64 n, .int .i64 x] w (RetChX 24 3 w (pinTo ps (wayTo xs n xs.length) x (wayTo xs n xs.length).length) xs) := by
  have HU := hid hu
  have HV := hid hv
  obtain ⟨_, a, cap, rfl, _, _, hat⟩ := hu
  obtain ⟨_, a', cap', rfl, _, _, hat'⟩ := hv
  clear hat hat'
  have hkb := inB_true hk
  have hxb := inB_true hx
  obtain ⟨hn, hl, -, hca, -⟩ := chainB_parts hc
  have hb : (chainB ps xs && inB (n : Int) 0 ((ps.length : Int) - 1)) = true := by rw [hc, hk]; rfl
  have HC := hid hb
  have HX := hid hx
  have HR := hid (way_range hc (k := n) (by omega))
  have HZ := hid (way_ends hc n)
  have hwl : (wayTo xs n xs.length).length ≤ xs.length := wayTo_length _ _ _
  have HOK := hid (pinTo_ok (ys := wayTo xs n xs.length) hca hxb.1 hxb.2 (fun i hi => by have := wayTo_bd (way_range hc (k := n) (by omega)) xs.length _ (gi_mem hi); omega))
  have HL := hid hl
  have hxl : xs.length ≤ 10 := by omega
  have hpl : ps.length ≤ 10 := by omega
  have hpl' : (ps.length : Int) ≤ 10 := by omega
  have hxl' : (xs.length : Int) ≤ 10 := by omega
  clear hk hx hkb hxb hc hb hca hn hl
  go_enter Try.func19, Try.ntmps19
  go_wp2_with fail
  refine (copyChain_any _ (HU.out.on (by repeat (first | (with_reducible exact gr_refl _ _) | (with_reducible assumption) | (with_reducible refine gr_drew ?_) | (with_reducible refine gr_drewN ?_ _) | (with_reducible refine gr_alloc ?_ _) | (with_reducible refine gr_set ?_ (.inr (by simp; done)) _) | (with_reducible refine gr_set ?_ (.inr (by simp; omega)) _) | (with_reducible refine gr_then ?_ (by with_reducible assumption))))) (HV.out.on (by repeat (first | (with_reducible exact gr_refl _ _) | (with_reducible assumption) | (with_reducible refine gr_drew ?_) | (with_reducible refine gr_drewN ?_ _) | (with_reducible refine gr_alloc ?_ _) | (with_reducible refine gr_set ?_ (.inr (by simp; done)) _) | (with_reducible refine gr_set ?_ (.inr (by simp; omega)) _) | (with_reducible refine gr_then ?_ (by with_reducible assumption))))) h1 h2).mono ?_
  rintro e w1 ⟨u1, v1, rfl, o1, i1, g1⟩
  obtain ⟨a1, c1, rfl⟩ := sl_own o1.2
  obtain ⟨b1, d1, rfl⟩ := sl_own i1.2
  have z1 := gr_le g1
  simp only [World.size_alloc] at z1 o1 i1
  have k10 := (gr_cell g1 w.heap.size 0 (by simp; omega)).trans (by simp [go_sem] : _ = some (Value.slice a ps.length cap))
  have k11 := (gr_cell g1 w.heap.size 1 (by simp; omega)).trans (by simp [go_sem] : _ = some (Value.slice a' xs.length cap'))
  have s10 := (gr_cell g1 (w.heap.size + 1) 0 (by simp)).trans (by simp [go_sem] : _ = some (Value.slice none 0 0))
  have s11 := (gr_cell g1 (w.heap.size + 1) 1 (by simp)).trans (by simp [go_sem] : _ = some (Value.slice none 0 0))
  have f10 := (gr_frozen g1 (w.heap.size + 1) 0 (by simp)).trans (by simp [go_sem] : _ = false)
  have f11 := (gr_frozen g1 (w.heap.size + 1) 1 (by simp)).trans (by simp [go_sem] : _ = false)
  have G1 : Gr w w1 none := gr_then (gr_alloc (gr_alloc (gr_refl _ _) _) _) g1
  have l1 : w.heap.size < w1.heap.size := by omega
  have l2 : w.heap.size + 1 < w1.heap.size := by omega
  have O1 := hid o1
  have I1 := hid i1
  clear o1 i1 g1
  go_wp2_with fail
  refine (isCistern_any _ _ (HU.out.on (by repeat (first | (with_reducible exact gr_refl _ _) | (with_reducible assumption) | (with_reducible refine gr_drew ?_) | (with_reducible refine gr_drewN ?_ _) | (with_reducible refine gr_alloc ?_ _) | (with_reducible refine gr_set ?_ (.inr (by simp; done)) _) | (with_reducible refine gr_set ?_ (.inr (by simp; omega)) _) | (with_reducible refine gr_then ?_ (by with_reducible assumption))))) (HV.out.on (by repeat (first | (with_reducible exact gr_refl _ _) | (with_reducible assumption) | (with_reducible refine gr_drew ?_) | (with_reducible refine gr_drewN ?_ _) | (with_reducible refine gr_alloc ?_ _) | (with_reducible refine gr_set ?_ (.inr (by simp; done)) _) | (with_reducible refine gr_set ?_ (.inr (by simp; omega)) _) | (with_reducible refine gr_then ?_ (by with_reducible assumption)))))).mono ?_
  rw [HC.out]
  rintro e w2 ⟨rfl, g2⟩
  have O1l := hid (fun j hj => (O1.out.lt j hj).2 : ∀ j, (Value.slice a1 ps.length c1).ownBlock = some j → j < w1.heap.size)
  have z2 := gr_le g2
  simp only [World.size_alloc] at z2
  have m0 := (gr_cell g2 w1.heap.size 0 (by simp)).trans (by simp [go_sem] : _ = some (Value.slice a1 ps.length c1))
  have m1 := (gr_cell g2 w1.heap.size 1 (by simp)).trans (by simp [go_sem] : _ = some (Value.slice b1 xs.length d1))
  have t10 := (gr_cell (gr_then (gr_alloc (gr_refl w1 none) _) g2) (w.heap.size + 1) 0 (by omega)).trans s10
  have t11 := (gr_cell (gr_then (gr_alloc (gr_refl w1 none) _) g2) (w.heap.size + 1) 1 (by omega)).trans s11
  have q10 := (gr_frozen (gr_then (gr_alloc (gr_refl w1 none) _) g2) (w.heap.size + 1) 0 (by omega)).trans f10
  have q11 := (gr_frozen (gr_then (gr_alloc (gr_refl w1 none) _) g2) (w.heap.size + 1) 1 (by omega)).trans f11
  have G2 : Gr w w2 none := gr_then (gr_alloc G1 _) g2
  have O2 := hid (O1.out.on (gr_then (gr_alloc (gr_refl w1 none) _) g2))
  have I2 := hid (I1.out.on (gr_then (gr_alloc (gr_refl w1 none) _) g2))
  have l3 : w.heap.size + 1 < w2.heap.size := by omega
  clear k10 k11 s10 s11 f10 f11 g2 O1 I1 G1
  go_wp2_with (go_at_call 29; refine (within0_any _ _).mono ?_; rw [HX.out]; rintro e w' ⟨rfl, rfl⟩)
  have CP : CpInv w w2 := ⟨G2, by omega, ⟨_, t10⟩, ⟨_, t11⟩, q10, q11⟩
  clear t10 t11 q10 q11 G2
  have HLT : Hid (∀ j, (Value.slice a1 ps.length c1).ownBlock = some j → j < w1.heap.size ∧ w.heap.size + 2 ≤ j) := fun j hj => ⟨(O1l.out j hj), by have := (O2.out.lt j hj).1; omega⟩
  have O2r := hid O2.out.2
  go_wp2_with fail
  go_loopg [1, 2] (xs.length + 1) (fun gk c y wr => ∃ t : Nat, gk + t = xs.length + 1 ∧ c = .int .i64 (wayAt xs n t) ∧ (t = 0 ∨ 0 ≤ wayAt xs n (t - 1)) ∧ y = .int .i64 (pinTo ps (wayTo xs n xs.length) x t).2 ∧ wr.ownsRow (w.heap.size + 1 + 1) 24 2 (.slice a1 ps.length c1) ps.length (pcells (pinTo ps (wayTo xs n xs.length) x t).1) ∧ OwnI 3 wr (w.heap.size + 1 + 1) (.slice b1 xs.length d1) xs ∧ wr.cell? ⟨w1.heap.size, 0, none⟩ = some (.slice a1 ps.length c1) ∧ wr.cell? ⟨w1.heap.size, 1, none⟩ = some (.slice b1 xs.length d1) ∧ CpInv w wr ∧ w1.heap.size < wr.heap.size)
  case atStart => exact ⟨0, by omega, rfl, .inl rfl, rfl, O2r.out, I2.out, m0, m1, CP, by omega⟩
  case round =>
    obtain ⟨t, ht, rfl, hpre, rfl, hown, hI, k0, k1, hcp, hsz⟩ := hrel
    have HPRE := hid hpre
    have HT := hid ht
    clear m0 m1 CP O2r O2 I2 hpre ht
    by_cases h0 : 0 ≤ wayAt xs n t
    · have hr := HR.out t
      have hlt : t < xs.length := by
        by_cases e : t = xs.length
        · rw [e] at h0 hr; exact absurd ⟨h0, hr⟩ HZ.out
        · rcases Nat.lt_or_ge t xs.length with h | h
          · exact h
          · have : t ≤ xs.length + 1 := by have := HT.out; omega
            obtain rfl : t = xs.length + 1 := by omega
            exact absurd ⟨(HPRE.out.resolve_left (by omega)), by have := HR.out xs.length; simpa using this⟩ HZ.out
      have hgw := gi_way h0 hlt
      have hylen : t < (wayTo xs n xs.length).length := by
        rcases Nat.lt_or_ge t (wayTo xs n xs.length).length with h | h
        · exact h
        · obtain ⟨l, hl⟩ := way_pre xs n (t := t + 1) xs.length hlt
          have h2 : (wayTo xs n (t + 1)).length = t + 1 := way_len (t + 1) (.inr (by simpa using h0))
          rw [hl, List.length_append] at h; omega
      obtain ⟨ok1, ok2, ok3⟩ := HOK.out t (by omega)
      have hlen := pinTo_length ps (wayTo xs n xs.length) x t
      obtain ⟨q, hq⟩ := Int.eq_ofNat_of_zero_le h0
      have HN : Hid (wayAt xs n (t + 1) = gi xs q) := by
        show nx xs (wayAt xs n t) = _
        rw [hq] at hr ⊢; exact if_pos ⟨by omega, hr⟩
      have E : Hid (pinTo ps (wayTo xs n xs.length) x (t + 1) = (pinS (pinTo ps (wayTo xs n xs.length) x t).1 q (pinTo ps (wayTo xs n xs.length) x t).2, pinO (pinTo ps (wayTo xs n xs.length) x t).1 q (pinTo ps (wayTo xs n xs.length) x t).2)) := by
        rw [pinTo, hgw, hq]; exact hid rfl
      have h0' := HPRE.out
      have HW0 := hid h0
      rw [hq] at hr
      have hqx : q < xs.length := by omega
      have hqp : q < ps.length := by have := HL.out; omega
      have hqp' : (q : Int) < ps.length := by omega
      have hqx' : (q : Int) < xs.length := by omega
      rw [hq]
      generalize pinTo ps (wayTo xs n xs.length) x t = R at *
      obtain ⟨P, X⟩ := R
      simp only at ok1 ok2 ok3 hlen hown E ⊢
      obtain ⟨g, hg1⟩ : ∃ g, a1 = some ⟨g, 0, none⟩ := by
        rcases hown.2 with ⟨e, e2⟩ | ⟨g, cap, cur, e, _⟩
        · omega
        · simp only [Value.slice.injEq] at e; exact ⟨g, e.1⟩
      subst hg1
      have hgl := HLT.out g rfl
      have hcr := cistB_true (cistAll_get ok1 (i := q) (by omega))
      obtain ⟨e0, e1⟩ := pcells_get P q (by omega)
      have d0 := (hown.cellAt (q * 2) (by omega)).trans e0
      have d1' := (hown.cellAt (q * 2 + 1) (by omega)).trans e1
      have f0 := hown.frozenAt (q * 2)
      have f1 := hown.frozenAt (q * 2 + 1)
      have HOWN := hid hown
      have hAP := (apart_types hI.2 hown (by decide : (3 : TypeId) ≠ 24))
      have HI := hid (And.intro hI hAP)
      have hci := hI.ints
      have hP : pinS P q X = P.set q ((gp P q).1, pourL (gp P q).1 (gp P q).2 X) := rfl
      have hO : pinO P q X = pourO (gp P q).1 (gp P q).2 X := rfl
      have HP := hid hP
      have HO := hid hO
      have HCP := hid hcp
      have HT2 := hid (And.intro hlt (And.intro h0' hylen))
      have hb1 : ∃ b off, b1 = some ⟨b, off, none⟩ ∧ IntsAt wr b off xs := by
        obtain ⟨_, aa, cc, e, _, _, hh⟩ := hci
        simp only [Value.slice.injEq] at e
        obtain ⟨rfl, _, rfl⟩ := e
        rcases hh with hh | hh
        · subst hh; simp at hqx
        · exact hh
      obtain ⟨b, off, rfl, hcb⟩ := hb1
      have hcx := hcb q hqx
      clear hq h0 hgw hylen hlen e0 e1 hown hI hAP hci hcb hcp h0' hP hO ok1 hlt
      have hbg : b ≠ g := fun e => by
        rcases HI.out.2 with h | h
        · simp [Value.ownBlock] at h
        · exact h (by rw [e]; rfl)
      have HBG := hid hbg
      generalize hrr : (gp P q).1 = rr at *
      generalize hll : (gp P q).2 = ll at *
      have HRL := hid (And.intro hrr hll)
      generalize hpl2 : pourL rr ll X = LL at *
      generalize hpo2 : pourO rr ll X = OO at *
      have HPL := hid hpl2
      have HPO := hid hpo2
      have HK := hid (And.intro k0 (And.intro k1 (And.intro d0 (And.intro d1' (And.intro f0 (And.intro f1 hcx))))))
      clear hbg hpl2 hpo2 hrr hll
      go_wp2_with fail
      go_region_with ((go_at_call 13; refine (pour_any _ _ _ _).mono ?_; rw [HPL.out, HPO.out]; rintro e w3 ⟨rfl, g3⟩; have G3 := gr_then (gr_drew (gr_refl wr none)) g3; have y0 := World.grownBy.cell G3 HK.out.1 (by simp); have y2 := World.grownBy.cell G3 HK.out.2.2.1 (by simp); have y3 := World.grownBy.cell G3 HK.out.2.2.2.1 (by simp); have y4 := (gr_frozen G3 g (q * 2) (by omega)).trans HK.out.2.2.2.2.1; have y5 := (gr_frozen G3 g (q * 2 + 1) (by omega)).trans HK.out.2.2.2.2.2.1))
      all_goals (
        have gs : Gr w3 ((w3.setCell ⟨g, q * 2, none⟩ (.int .i64 rr)).setCell ⟨g, q * 2 + 1, none⟩ (.int .i64 LL)) (some g) := gr_set (p := ⟨g, q * 2 + 1, none⟩) (gr_set (p := ⟨g, q * 2, none⟩) (gr_refl _ _) (.inl rfl) _) (.inl rfl) _
        have o3 := HOWN.out.kept G3 (.inr (by simp [Value.ownBlock]))
        have o4 := (o3.stored (q * 2) (.int .i64 rr)).1
        have o5 := (o4.stored (q * 2 + 1) (.int .i64 LL)).1
        rw [pcells_set] at o5
        have O5 := hid o5
        have n0 := (gr_cellr gs (b := w1.heap.size) (o := 0) (by have := gr_le G3; omega) (by simp; omega)).trans y0
        have n1 := (gr_cellr gs (b := w1.heap.size) (o := 1) (by have := gr_le G3; omega) (by simp; omega)).trans (World.grownBy.cell G3 HK.out.2.1 (by simp))
        have nb3 := World.grownBy.cell G3 HK.out.2.2.2.2.2.2 (by simp)
        have nb := (gr_cellr gs (b := b) (o := off + q) (World.block_lt_of_cell? _ _ nb3) (by simp; exact Ne.symm HBG.out)).trans nb3
        have HC5 := hid ((HCP.out.on G3).row gs (by omega))
        have HI5 := hid ((HI.out.1.on G3).kept gs HI.out.2)
        have hs5 : w1.heap.size < ((w3.setCell ⟨g, q * 2, none⟩ (.int .i64 rr)).setCell ⟨g, q * 2 + 1, none⟩ (.int .i64 LL)).heap.size := by have := gr_le G3; simp; omega
        clear o3 o4 o5 gs nb3 y0 y2 y3 y4 y5 g3 k0 k1 d0 d1' f0 f1 hcx
        go_wp2
        go_roundg (gk - 1)
        case measure => have := HT.out; have := HT2.out.1; omega
        case rel => exact ⟨t + 1, by have := HT.out; have := HT2.out.1; omega, by rw [HN.out], .inr (by simpa using HW0.out), by rw [E.out]; show _ = Value.int .i64 (pinO P q X); rw [HO.out], by rw [E.out]; show World.ownsRow _ _ _ _ _ _ (pcells (pinS P q X)); rw [HP.out]; exact O5.out, HI5.out, n0, n1, HC5.out, hs5⟩)
    · have hlen : (wayTo xs n xs.length).length = t := by
        have htx : t ≤ xs.length := by
          rcases Nat.lt_or_ge xs.length t with h | h
          · have : t = xs.length + 1 := by have := HT.out; omega
            subst this
            have := HPRE.out.resolve_left (by omega)
            exact absurd ⟨(by simpa using this), HR.out xs.length⟩ HZ.out
          · exact h
        rw [wayTo_stop h0 xs.length htx]
        exact way_len t HPRE.out
      have hneg : wayAt xs n t < 0 := by omega
      have hlen' := pinTo_length ps (wayTo xs n xs.length) x t
      have ok1 := (HOK.out t (by omega)).1
      have HE : Hid (pinTo ps (wayTo xs n xs.length) x (wayTo xs n xs.length).length = pinTo ps (wayTo xs n xs.length) x t) := by rw [hlen]; exact hid rfl
      generalize pinTo ps (wayTo xs n xs.length) x t = R at *
      obtain ⟨P, X⟩ := R
      simp only at hlen' hown ok1 ⊢
      obtain ⟨hG, hz, ⟨x0, t10⟩, ⟨x1, t11⟩, q10, q11⟩ := hcp
      have r0 : ((wr.setCell ⟨w.heap.size + 1, 0, none⟩ (.slice a1 ps.length c1)).setCell ⟨w.heap.size + 1, 1, none⟩ (.slice b1 xs.length d1)).cell? ⟨w.heap.size + 1, 0, none⟩ = some (.slice a1 ps.length c1) := set_other (by simp) (set_same t10)
      have r1 : ((wr.setCell ⟨w.heap.size + 1, 0, none⟩ (.slice a1 ps.length c1)).setCell ⟨w.heap.size + 1, 1, none⟩ (.slice b1 xs.length d1)).cell? ⟨w.heap.size + 1, 1, none⟩ = some (.slice b1 xs.length d1) := set_same (set_other (by simp) t11)
      have hown' : OwnP 24 wr (w.heap.size + 1 + 1) (.slice a1 ps.length c1) P := ⟨cist_i64 ok1, by rw [hlen']; exact hown⟩
      have HF : Hid (OwnP 24 ((wr.setCell ⟨w.heap.size + 1, 0, none⟩ (.slice a1 ps.length c1)).setCell ⟨w.heap.size + 1, 1, none⟩ (.slice b1 xs.length d1)) w.heap.size (.slice a1 ps.length c1) P ∧ OwnI 3 ((wr.setCell ⟨w.heap.size + 1, 0, none⟩ (.slice a1 ps.length c1)).setCell ⟨w.heap.size + 1, 1, none⟩ (.slice b1 xs.length d1)) w.heap.size (.slice b1 xs.length d1) xs ∧ Gr w ((wr.setCell ⟨w.heap.size + 1, 0, none⟩ (.slice a1 ps.length c1)).setCell ⟨w.heap.size + 1, 1, none⟩ (.slice b1 xs.length d1)) none) :=
        ⟨OwnP.mono' (B := w.heap.size + 1 + 1) ((hown'.set (by simp) _).set (by simp) _) (by omega), OwnI.mono (B := w.heap.size + 1 + 1) ((hI.set (by simp) _).set (by simp) _) (by omega), gr_set (gr_set hG (.inr (by simp)) _) (.inr (by simp)) _⟩
      clear hown hown' hI hlen hlen' ok1 hG h0
      go_wp2
      exact bodyPost_ret (v := .tuple #[.agg #[.slice a1 ps.length c1, .slice b1 xs.length d1], .int .i64 X]) (by simp [results, Try.results19, go_sem, r0, r1]) rfl (by rw [HE.out]; exact ⟨_, _, rfl, HF.out⟩)
theorem pourInto_any {u v : Value} {ps : List (Int × Int)} {xs : List Int} (k x : Int) (w : World) (hu : Pairs w u ps) (hv : Ints w v xs) (h1 : ps.length ≤ 1048576) (h2 : xs.length ≤ 1048576) :
    Calls Try.prog 19 #[.agg #[u, v], .int .i64 k, .int .i64 x] w (RetChX 24 3 w (pinV ps xs k x) xs) := by
  cases hb : pinOk ps xs k x
  · rw [pinV, hb]
    exact pourInto_no k x w hu hv h1 h2 hb
  · have hb' := hb
    rw [pinV, hb, if_pos rfl]
    simp only [pinOk, Bool.and_eq_true] at hb
    obtain ⟨⟨hc, hk⟩, hx⟩ := hb
    obtain ⟨n, rfl⟩ := Int.eq_ofNat_of_zero_le (inB_true hk).1
    have e : wayV ps xs n = wayTo xs n xs.length := by
      rw [wayV, hc, hk]; rfl
    rw [e]
    exact pourInto_yes n x w hu hv h1 h2 hc hk hx
end Go.Proofs.Ytbmgmolnknnaiaa
