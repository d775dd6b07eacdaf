/- What can leave a place of a net: walks; the laws NetOk and OutOf. -/
import Derived.Test.YtbkpphcmdjllnaaNet2
import Derived.Test.YtbkpphcmdjllnaaOpenN
namespace Go.Proofs.Ytbkpphcmdjllnaa
open Go.RowKit

/-- The widths of the pipes out of a place, up to pipe k. -/
def outTo (ts : List Tri) (p : Int) : Nat → Int
  | 0 => 0
  | k + 1 => if (gt ts k).1 = p then outTo ts p k + (gt ts k).2.2 else outTo ts p k
def outV (n : Int) (ts : List Tri) (p : Int) : Int := if netB n ts && inB p 0 (n - 1) then outTo ts p ts.length else -1
theorem outTo_bd {n : Int} {ts : List Tri} (h : netB n ts = true) (p : Int) : ∀ k, k ≤ ts.length → 0 ≤ outTo ts p k ∧ outTo ts p k ≤ 1000 * k := by
  obtain ⟨_, hl, hx⟩ := netB_parts h
  intro k
  induction k with
  | zero => intro _; simp [outTo]
  | succ k ih =>
    intro h'
    have := ih (by omega)
    have := (hx k (by omega)).2.2.2
    simp only [outTo]
    split <;> omega
theorem isPlace_any {u : Value} {ts : List Tri} (n p : Int) (w : World) (hu : Trips w u ts) :
    Calls Try.prog 25 #[.agg #[.int .i64 n, u], .int .i64 p] w fun e w' => e = .returned (.bool (netB n ts && inB p 0 (n - 1))) ∧ Gr w w' none := by
  have HU := hid hu
  obtain ⟨_, a, cap, rfl, _, _, hat⟩ := hu
  clear hat
  cases hb : netB n ts
  · have HB := hid hb
    clear hb
    go_enter Try.func25, Try.ntmps25
    go_wp2_with fail
    refine (netOk_any _ _ (HU.out.on (gr_alloc (gr_refl _ _) _))).mono ?_
    rw [HB.out]
    rintro e w1 ⟨rfl, g1⟩
    go_wp2
    go_ret
    exact ⟨rfl, gr_then (by repeat (first | (with_reducible exact gr_refl _ _) | (with_reducible assumption) | (with_reducible refine gr_drew ?_) | (with_reducible refine gr_drewN ?_ _) | (with_reducible refine gr_alloc ?_ _) | (with_reducible refine gr_set ?_ (.inr (by simp; done)) _) | (with_reducible refine gr_set ?_ (.inr (by simp; omega)) _) | (with_reducible refine gr_then ?_ (by with_reducible assumption)))) g1⟩
  · have hn := (netB_parts hb).1
    have hn1 := hn.1
    have hn2 := hn.2
    clear hn
    have HB := hid hb
    clear hb
    go_enter Try.func25, Try.ntmps25
    go_wp2_with fail
    refine (netOk_any _ _ (HU.out.on (gr_alloc (gr_refl _ _) _))).mono ?_
    rw [HB.out]
    rintro e w1 ⟨rfl, g1⟩
    have k0 := (gr_cell g1 w.heap.size 0 (by simp)).trans (by simp [go_sem] : _ = some (Value.int .i64 n))
    have G1 : Gr w w1 none := gr_then (by repeat (first | (with_reducible exact gr_refl _ _) | (with_reducible assumption) | (with_reducible refine gr_drew ?_) | (with_reducible refine gr_drewN ?_ _) | (with_reducible refine gr_alloc ?_ _) | (with_reducible refine gr_set ?_ (.inr (by simp; done)) _) | (with_reducible refine gr_set ?_ (.inr (by simp; omega)) _) | (with_reducible refine gr_then ?_ (by with_reducible assumption)))) g1
    clear g1
    go_wp2_with (go_at_call 23; refine (within_any _ _ _ _).mono ?_; rintro e w' ⟨rfl, rfl⟩)
    go_ret
    exact ⟨ret_bool (by simp), G1⟩
theorem outOf_any {u : Value} {ts : List Tri} (n p : Int) (w : World) (hu : Trips w u ts) :
    Calls Try.prog 12 #[.agg #[.int .i64 n, u], .int .i64 p] w fun e w' => e = .returned (.int .i64 (outV n ts p)) ∧ Gr w w' none := by
  have HU := hid hu
  obtain ⟨_, a, cap, rfl, hcap, hmax, hat⟩ := hu
  unfold maxLen at hmax
  cases hb : (netB n ts && inB p 0 (n - 1))
  · rw [show outV n ts p = -1 from by simp [outV, hb]]
    have HB := hid hb
    clear hb hat
    go_enter Try.func12, Try.ntmps12
    go_wp2_with fail
    refine (isPlace_any _ _ _ (HU.out.on (gr_alloc (gr_refl _ _) _))).mono ?_
    rw [HB.out]
    rintro e w1 ⟨rfl, g1⟩
    go_wp2
    go_ret
    exact ⟨rfl, gr_then (by repeat (first | (with_reducible exact gr_refl _ _) | (with_reducible assumption) | (with_reducible refine gr_drew ?_) | (with_reducible refine gr_drewN ?_ _) | (with_reducible refine gr_alloc ?_ _) | (with_reducible refine gr_set ?_ (.inr (by simp; done)) _) | (with_reducible refine gr_set ?_ (.inr (by simp; omega)) _) | (with_reducible refine gr_then ?_ (by with_reducible assumption)))) g1⟩
  · have HB := hid hb
    have HN := hid (by simp only [Bool.and_eq_true] at hb; exact hb.1 : netB n ts = true)
    rw [show outV n ts p = outTo ts p ts.length from by simp [outV, hb]]
    generalize hR : outTo ts p ts.length = R
    have HR := hid hR
    have hl20 : (ts.length : Int) ≤ 20 := by have := (netB_parts HN.out).2.1; omega
    clear hb hR
    go_enter Try.func12, Try.ntmps12
    go_wp2_with fail
    refine (isPlace_any _ _ _ (HU.out.on (gr_alloc (gr_refl _ _) _))).mono ?_
    rw [HB.out]
    rintro e w1 ⟨rfl, g1⟩
    have k1 := (gr_cell g1 w.heap.size 1 (by simp)).trans (by simp [go_sem] : _ = some (Value.slice a ts.length cap))
    have G1 : Gr w w1 none := gr_then (by repeat (first | (with_reducible exact gr_refl _ _) | (with_reducible assumption) | (with_reducible refine gr_drew ?_) | (with_reducible refine gr_drewN ?_ _) | (with_reducible refine gr_alloc ?_ _) | (with_reducible refine gr_set ?_ (.inr (by simp; done)) _) | (with_reducible refine gr_set ?_ (.inr (by simp; omega)) _) | (with_reducible refine gr_then ?_ (by with_reducible assumption)))) g1
    clear g1
    go_wp2_with fail
    go_loopw [5, 15] (fun s i wr => ∃ k : Nat, k ≤ ts.length ∧ i = .int .i64 k ∧ s = .int .i64 (outTo ts p k) ∧ Gr w wr none) (fun _ i _ => ts.length - (intOf i).toNat)
    case atStart => exact ⟨0, Nat.zero_le _, rfl, rfl, G1⟩
    case round =>
      obtain ⟨k, hk, rfl, rfl, hg⟩ := hrel
      by_cases hlt : k < ts.length
      · obtain ⟨b, off, rfl, hc⟩ : ∃ b off, a = some ⟨b, off, none⟩ ∧ TripsAt w b off ts := by
          rcases hat with h0 | h0
          · subst h0; simp at hlt
          · exact h0
        obtain ⟨c1, c2, c3⟩ := (hc.kept hg (by simp)) k hlt
        clear hc hat
        obtain ⟨b1, b2⟩ := outTo_bd HN.out p k hk
        obtain ⟨b3, b4⟩ := ((netB_parts HN.out).2.2 k hlt).2.2.2
        have b5 : outTo ts p k ≤ 20000 := by omega
        clear b2
        by_cases hq : (gt ts k).1 = p
        · have E : Hid (outTo ts p (k + 1) = outTo ts p k + (gt ts k).2.2) := by show _ = _; simp only [outTo]; rw [if_pos hq]
          have hq' : ((gt ts k).1 == p) = true := by simpa using hq
          clear hq
          go_wp2
          go_roundw
          case rel => exact ⟨k + 1, by omega, by go_num, by rw [E.out], gr_alloc hg _⟩
          case measure => simp [intOf]; omega
        · have E : Hid (outTo ts p (k + 1) = outTo ts p k) := by show _ = _; simp only [outTo]; rw [if_neg hq]
          have hq' : ((gt ts k).1 == p) = false := by simpa using hq
          clear hq
          go_wp2
          go_roundw
          case rel => exact ⟨k + 1, by omega, by go_num, by rw [E.out], gr_alloc hg _⟩
          case measure => simp [intOf]; omega
      · have hkl : k = ts.length := by omega
        subst hkl
        clear hat
        go_wp2
        go_ret
        exact ⟨by rw [← HR.out]; rfl, hg⟩
theorem sOutOf_any {u : Value} {ts : List Tri} (n p : Int) (w : World) (hu : Trips w u ts) :
    Calls Try.prog 11 #[.agg #[.int .i64 n, u], .int .i64 p] w fun e w' => e = .returned (.int .i64 (outV n ts p)) ∧ Gr w w' none := by
  have HU := hid hu
  obtain ⟨_, a, cap, rfl, hcap, hmax, hat⟩ := hu
  unfold maxLen at hmax
  cases hb : netB n ts
  · rw [show outV n ts p = -1 from by simp [outV, hb]]
    have HB := hid hb
    clear hb hat
    go_enter Try.func11, Try.ntmps11
    go_wp2_with fail
    refine (sNetOk_any _ _ (HU.out.on (gr_alloc (gr_refl _ _) _))).mono ?_
    rw [HB.out]
    rintro e w1 ⟨rfl, g1⟩
    go_wp2
    go_ret
    exact ⟨rfl, gr_then (by repeat (first | (with_reducible exact gr_refl _ _) | (with_reducible assumption) | (with_reducible refine gr_drew ?_) | (with_reducible refine gr_drewN ?_ _) | (with_reducible refine gr_alloc ?_ _) | (with_reducible refine gr_set ?_ (.inr (by simp; done)) _) | (with_reducible refine gr_set ?_ (.inr (by simp; omega)) _) | (with_reducible refine gr_then ?_ (by with_reducible assumption)))) g1⟩
  have hn := (netB_parts hb).1
  have hn1 := hn.1
  have hn2 := hn.2
  clear hn
  cases hp : inB p 0 (n - 1)
  · rw [show outV n ts p = -1 from by simp [outV, hp]]
    have HB := hid hb
    have HP := hid hp
    clear hb hp hat
    go_enter Try.func11, Try.ntmps11
    go_wp2_with fail
    refine (sNetOk_any _ _ (HU.out.on (gr_alloc (gr_refl _ _) _))).mono ?_
    rw [HB.out]
    rintro e w1 ⟨rfl, g1⟩
    have k0 := (gr_cell g1 w.heap.size 0 (by simp)).trans (by simp [go_sem] : _ = some (Value.int .i64 n))
    have G1 : Gr w w1 none := gr_then (by repeat (first | (with_reducible exact gr_refl _ _) | (with_reducible assumption) | (with_reducible refine gr_drew ?_) | (with_reducible refine gr_drewN ?_ _) | (with_reducible refine gr_alloc ?_ _) | (with_reducible refine gr_set ?_ (.inr (by simp; done)) _) | (with_reducible refine gr_set ?_ (.inr (by simp; omega)) _) | (with_reducible refine gr_then ?_ (by with_reducible assumption)))) g1
    clear g1
    go_wp2_with (go_at_call 21; refine (l01In_any _ _ _ _).mono ?_; rw [HP.out]; rintro e w' ⟨rfl, rfl⟩)
    go_ret
    exact ⟨rfl, G1⟩
  · have HB := hid hb
    have HP := hid hp
    rw [show outV n ts p = outTo ts p ts.length from by simp [outV, hb, hp]]
    generalize hR : outTo ts p ts.length = R
    have HR := hid hR
    have hl20 : (ts.length : Int) ≤ 20 := by have := (netB_parts hb).2.1; omega
    clear hb hp hR
    go_enter Try.func11, Try.ntmps11
    go_wp2_with fail
    refine (sNetOk_any _ _ (HU.out.on (gr_alloc (gr_refl _ _) _))).mono ?_
    rw [HB.out]
    rintro e w1 ⟨rfl, g1⟩
    have k0 := (gr_cell g1 w.heap.size 0 (by simp)).trans (by simp [go_sem] : _ = some (Value.int .i64 n))
    have k1 := (gr_cell g1 w.heap.size 1 (by simp)).trans (by simp [go_sem] : _ = some (Value.slice a ts.length cap))
    have G1 : Gr w w1 none := gr_then (by repeat (first | (with_reducible exact gr_refl _ _) | (with_reducible assumption) | (with_reducible refine gr_drew ?_) | (with_reducible refine gr_drewN ?_ _) | (with_reducible refine gr_alloc ?_ _) | (with_reducible refine gr_set ?_ (.inr (by simp; done)) _) | (with_reducible refine gr_set ?_ (.inr (by simp; omega)) _) | (with_reducible refine gr_then ?_ (by with_reducible assumption)))) g1
    clear g1
    go_wp2_with (go_at_call 21; refine (l01In_any _ _ _ _).mono ?_; rw [HP.out]; rintro e w' ⟨rfl, rfl⟩)
    go_loop [5, 6] (fun s i => ∃ k : Nat, k ≤ ts.length ∧ i = .int .i64 k ∧ s = .int .i64 (outTo ts p k)) (fun _ i => ts.length - (intOf i).toNat)
    case atStart => exact ⟨0, Nat.zero_le _, rfl, rfl⟩
    case round =>
      obtain ⟨k, hk, rfl, rfl⟩ := hrel
      by_cases hlt : k < ts.length
      · obtain ⟨b, off, rfl, hc⟩ : ∃ b off, a = some ⟨b, off, none⟩ ∧ TripsAt w b off ts := by
          rcases hat with h0 | h0
          · subst h0; simp at hlt
          · exact h0
        obtain ⟨c1, c2, c3⟩ := (hc.kept G1 (by simp)) k hlt
        clear hc hat
        obtain ⟨b1, b2⟩ := outTo_bd HB.out p k hk
        obtain ⟨b3, b4⟩ := ((netB_parts HB.out).2.2 k hlt).2.2.2
        have b5 : outTo ts p k ≤ 20000 := by omega
        clear b2
        by_cases hq : (gt ts k).1 = p
        · have E : Hid (outTo ts p (k + 1) = outTo ts p k + (gt ts k).2.2) := by show _ = _; simp only [outTo]; rw [if_pos hq]
          have hq' : ((gt ts k).1 == p) = true := by simpa using hq
          clear hq
          go_wp2
          go_round
          case rel => exact ⟨k + 1, by omega, by go_num, by rw [E.out]⟩
          case measure => simp [intOf]; omega
        · have E : Hid (outTo ts p (k + 1) = outTo ts p k) := by show _ = _; simp only [outTo]; rw [if_neg hq]
          have hq' : ((gt ts k).1 == p) = false := by simpa using hq
          clear hq
          go_wp2
          go_round
          case rel => exact ⟨k + 1, by omega, by go_num, by rw [E.out]⟩
          case measure => simp [intOf]; omega
      · have hkl : k = ts.length := by omega
        subst hkl
        clear hat
        go_wp2
        go_ret
        exact ⟨by rw [← HR.out]; rfl, G1⟩
theorem held4n {w a b : World} {p q r s : Addr} {x y z u : Value} (h : a.cell? p = some x ∧ a.cell? q = some y ∧ a.cell? r = some z ∧ a.cell? s = some u ∧ Gr w a none) (hg : Gr a b none) :
    b.cell? p = some x ∧ b.cell? q = some y ∧ b.cell? r = some z ∧ b.cell? s = some u ∧ Gr w b none :=
  ⟨World.grownBy.cell hg h.1 (by simp), World.grownBy.cell hg h.2.1 (by simp), World.grownBy.cell hg h.2.2.1 (by simp), World.grownBy.cell hg h.2.2.2.1 (by simp), gr_then h.2.2.2.2 hg⟩
theorem walk_FnExactNetOk (n : Int) (u : Value) (ts : List Tri) (w : World) (_hn : I64 n) (hu : Trips w u ts) :
    Calls Try.prog 3 #[.agg #[.int .i64 n, u]] w fun e w' => e = .returned (.bool true) ∧ Gr w w' none := by
  have HU := hid hu
  obtain ⟨_, a, cap, rfl, _, _, hat⟩ := hu
  clear hat
  go_enter Try.func3, Try.ntmps3
  go_wp2_with fail
  refine (szNet_any _ _ (HU.out.on (by repeat (first | (with_reducible exact gr_refl _ _) | (with_reducible assumption) | (with_reducible refine gr_drew ?_) | (with_reducible refine gr_drewN ?_ _) | (with_reducible refine gr_alloc ?_ _) | (with_reducible refine gr_set ?_ (.inr (by simp; done)) _) | (with_reducible refine gr_set ?_ (.inr (by simp; omega)) _) | (with_reducible refine gr_then ?_ (by with_reducible assumption)))))).mono ?_
  rintro e w1 ⟨s, rfl, hs, g1⟩
  have G1 : Gr w w1 none := gr_then (by repeat (first | (with_reducible exact gr_refl _ _) | (with_reducible assumption) | (with_reducible refine gr_drew ?_) | (with_reducible refine gr_drewN ?_ _) | (with_reducible refine gr_alloc ?_ _) | (with_reducible refine gr_set ?_ (.inr (by simp; done)) _) | (with_reducible refine gr_set ?_ (.inr (by simp; omega)) _) | (with_reducible refine gr_then ?_ (by with_reducible assumption)))) g1
  rcases hs with hs | ⟨hs, hl1⟩
  · clear g1
    go_wp2
    go_ret
    exact ⟨rfl, G1⟩
  have k10 := (gr_cell g1 w.heap.size 0 (by simp)).trans (by simp [go_sem] : _ = some (Value.int .i64 n))
  have k11 := (gr_cell g1 w.heap.size 1 (by simp)).trans (by simp [go_sem] : _ = some (Value.slice a ts.length cap))
  have z1 := gr_le g1
  simp only [World.size_alloc] at z1
  clear g1
  go_wp2_with fail
  refine (toNet_any _ _ (HU.out.on G1) hl1).mono ?_
  rintro e w2 ⟨u2, rfl, p2, g2⟩
  have G2 := gr_then G1 g2
  go_wp2_with fail
  refine (sNetOk_any _ _ p2.trips).mono ?_
  rintro e w3 ⟨rfl, g3⟩
  have g13 := gr_then g2 g3
  have k30 := (gr_cell g13 w.heap.size 0 (by omega)).trans k10
  have k31 := (gr_cell g13 w.heap.size 1 (by omega)).trans k11
  have G3 := gr_then G2 g3
  have z3 := gr_le g13
  clear p2 g2 g3 g13 G2 k10 k11
  go_wp2_with fail
  refine (toNet_any _ _ (HU.out.on G3) hl1).mono ?_
  rintro e w4 ⟨u4, rfl, p4, g4⟩
  have k40 := (gr_cell g4 w.heap.size 0 (by omega)).trans k30
  have k41 := (gr_cell g4 w.heap.size 1 (by omega)).trans k31
  have G4 := gr_then G3 g4
  have z4 := gr_le g4
  obtain ⟨a4, c4, rfl⟩ : ∃ a c, u4 = .slice a ts.length c := by obtain ⟨_, a, c, e, _⟩ := p4.trips; exact ⟨a, c, e⟩
  have P4 := hid p4.trips
  clear g4 k30 k31 p4
  go_wp2_with fail
  refine (netOk_any _ _ (P4.out.on (by repeat (first | (with_reducible exact gr_refl _ _) | (with_reducible assumption) | (with_reducible refine gr_drew ?_) | (with_reducible refine gr_drewN ?_ _) | (with_reducible refine gr_alloc ?_ _) | (with_reducible refine gr_set ?_ (.inr (by simp; done)) _) | (with_reducible refine gr_set ?_ (.inr (by simp; omega)) _) | (with_reducible refine gr_then ?_ (by with_reducible assumption)))))).mono ?_
  rintro e w5 ⟨rfl, g5⟩
  have q10 := (gr_cell g5 w.heap.size 0 (by simp; omega)).trans ((World.cell?_alloc_lt _ _ _ (by simp; omega)).trans k40)
  have q11 := (gr_cell g5 w.heap.size 1 (by simp; omega)).trans ((World.cell?_alloc_lt _ _ _ (by simp; omega)).trans k41)
  have q50 := (gr_cell g5 w4.heap.size 0 (by simp)).trans (by simp [go_sem] : _ = some (Value.int .i64 n))
  have q51 := (gr_cell g5 w4.heap.size 1 (by simp)).trans (by simp [go_sem] : _ = some (Value.slice a4 ts.length c4))
  have G5 : Gr w w5 none := gr_then (gr_alloc G4 _) g5
  have P5 := hid (P4.out.on (gr_then (gr_alloc (gr_refl w4 none) _) g5))
  have U5 := hid (HU.out.on G5)
  have HA := hid (And.intro q10 (And.intro q11 (And.intro q50 (And.intro q51 (gr_refl w5 none)))))
  have HG5 := hid G5
  clear g5 k40 k41 G1 G3 G4 z1 z3 z4 P4 G5 q10 q11 q50 q51
  go_wp2_with fail
  go_region_held3 (fun w' => w'.cell? ⟨w.heap.size, 0, none⟩ = some (.int .i64 n) ∧ w'.cell? ⟨w.heap.size, 1, none⟩ = some (.slice a ts.length cap) ∧ w'.cell? ⟨w4.heap.size, 0, none⟩ = some (.int .i64 n) ∧ w'.cell? ⟨w4.heap.size, 1, none⟩ = some (.slice a4 ts.length c4) ∧ Gr w5 w' none)
    (first | with_reducible exact held4n (by assumption) (by assumption) | with_reducible exact held4n HA.out (gr_drew (gr_refl _ _)) | with_reducible exact HA.out)
    (first
      | (go_at_call 8; refine (toNet_any _ _ (U5.out.on (gr_drew (gr_refl _ _))) hl1).mono ?_; rintro e w' ⟨u6, rfl, p6, g6⟩)
      | (go_at_call 10; refine (eqNet_any _ _ (P5.out.on (gr_then (gr_drew (gr_refl _ _)) g6)) p6.trips).mono ?_; simp only [decide_true]; rintro e w' ⟨rfl, g7⟩))
  go_wp2
  go_ret
  exact ⟨rfl, gr_then HG5.out (gr_then (gr_then (gr_drew (gr_refl _ _)) g6) g7)⟩
theorem walk_FnExactOutOf (n : Int) (u : Value) (ts : List Tri) (p : Int) (w : World) (_hn : I64 n) (hu : Trips w u ts) (_hp : I64 p) :
    Calls Try.prog 4 #[.agg #[.int .i64 n, u], .int .i64 p] w fun e w' => e = .returned (.bool true) ∧ Gr w w' none := by
  have HU := hid hu
  obtain ⟨_, a, cap, rfl, _, _, hat⟩ := hu
  clear hat
  go_enter Try.func4, Try.ntmps4
  go_wp2_with fail
  refine (szNet_any _ _ (HU.out.on (by repeat (first | (with_reducible exact gr_refl _ _) | (with_reducible assumption) | (with_reducible refine gr_drew ?_) | (with_reducible refine gr_drewN ?_ _) | (with_reducible refine gr_alloc ?_ _) | (with_reducible refine gr_set ?_ (.inr (by simp; done)) _) | (with_reducible refine gr_set ?_ (.inr (by simp; omega)) _) | (with_reducible refine gr_then ?_ (by with_reducible assumption)))))).mono ?_
  rintro e w1 ⟨s, rfl, hs, g1⟩
  have G1 : Gr w w1 none := gr_then (by repeat (first | (with_reducible exact gr_refl _ _) | (with_reducible assumption) | (with_reducible refine gr_drew ?_) | (with_reducible refine gr_drewN ?_ _) | (with_reducible refine gr_alloc ?_ _) | (with_reducible refine gr_set ?_ (.inr (by simp; done)) _) | (with_reducible refine gr_set ?_ (.inr (by simp; omega)) _) | (with_reducible refine gr_then ?_ (by with_reducible assumption)))) g1
  rcases hs with hs | ⟨hs, hl1⟩
  · clear g1
    go_wp2
    go_ret
    exact ⟨rfl, G1⟩
  have k10 := (gr_cell g1 w.heap.size 0 (by simp)).trans (by simp [go_sem] : _ = some (Value.int .i64 n))
  have k11 := (gr_cell g1 w.heap.size 1 (by simp)).trans (by simp [go_sem] : _ = some (Value.slice a ts.length cap))
  have z1 := gr_le g1
  simp only [World.size_alloc] at z1
  clear g1
  go_wp2_with fail
  refine (toNet_any _ _ (HU.out.on G1) hl1).mono ?_
  rintro e w2 ⟨u2, rfl, p2, g2⟩
  have G2 := gr_then G1 g2
  go_wp2_with fail
  refine (sOutOf_any _ _ _ p2.trips).mono ?_
  rintro e w3 ⟨rfl, g3⟩
  have g13 := gr_then g2 g3
  have k30 := (gr_cell g13 w.heap.size 0 (by omega)).trans k10
  have k31 := (gr_cell g13 w.heap.size 1 (by omega)).trans k11
  have G3 := gr_then G2 g3
  have z3 := gr_le g13
  clear p2 g2 g3 g13 G2 k10 k11
  go_wp2_with fail
  refine (toNet_any _ _ (HU.out.on G3) hl1).mono ?_
  rintro e w4 ⟨u4, rfl, p4, g4⟩
  have k40 := (gr_cell g4 w.heap.size 0 (by omega)).trans k30
  have k41 := (gr_cell g4 w.heap.size 1 (by omega)).trans k31
  have G4 := gr_then G3 g4
  have z4 := gr_le g4
  obtain ⟨a4, c4, rfl⟩ : ∃ a c, u4 = .slice a ts.length c := by obtain ⟨_, a, c, e, _⟩ := p4.trips; exact ⟨a, c, e⟩
  have P4 := hid p4.trips
  clear g4 k30 k31 p4
  go_wp2_with fail
  refine (outOf_any _ _ _ (P4.out.on (by repeat (first | (with_reducible exact gr_refl _ _) | (with_reducible assumption) | (with_reducible refine gr_drew ?_) | (with_reducible refine gr_drewN ?_ _) | (with_reducible refine gr_alloc ?_ _) | (with_reducible refine gr_set ?_ (.inr (by simp; done)) _) | (with_reducible refine gr_set ?_ (.inr (by simp; omega)) _) | (with_reducible refine gr_then ?_ (by with_reducible assumption)))))).mono ?_
  rintro e w5 ⟨rfl, g5⟩
  have q10 := (gr_cell g5 w.heap.size 0 (by simp; omega)).trans ((World.cell?_alloc_lt _ _ _ (by simp; omega)).trans k40)
  have q11 := (gr_cell g5 w.heap.size 1 (by simp; omega)).trans ((World.cell?_alloc_lt _ _ _ (by simp; omega)).trans k41)
  have q50 := (gr_cell g5 w4.heap.size 0 (by simp)).trans (by simp [go_sem] : _ = some (Value.int .i64 n))
  have q51 := (gr_cell g5 w4.heap.size 1 (by simp)).trans (by simp [go_sem] : _ = some (Value.slice a4 ts.length c4))
  have G5 : Gr w w5 none := gr_then (gr_alloc G4 _) g5
  have P5 := hid (P4.out.on (gr_then (gr_alloc (gr_refl w4 none) _) g5))
  have U5 := hid (HU.out.on G5)
  have HA := hid (And.intro q10 (And.intro q11 (And.intro q50 (And.intro q51 (gr_refl w5 none)))))
  have HG5 := hid G5
  clear g5 k40 k41 G1 G3 G4 z1 z3 z4 P4 G5 q10 q11 q50 q51
  go_wp2_with fail
  go_region_held3 (fun w' => w'.cell? ⟨w.heap.size, 0, none⟩ = some (.int .i64 n) ∧ w'.cell? ⟨w.heap.size, 1, none⟩ = some (.slice a ts.length cap) ∧ w'.cell? ⟨w4.heap.size, 0, none⟩ = some (.int .i64 n) ∧ w'.cell? ⟨w4.heap.size, 1, none⟩ = some (.slice a4 ts.length c4) ∧ Gr w5 w' none)
    (first | with_reducible exact held4n (by assumption) (by assumption) | with_reducible exact held4n HA.out (gr_drew (gr_refl _ _)) | with_reducible exact HA.out)
    (first
      | (go_at_call 8; refine (toNet_any _ _ (U5.out.on (gr_drew (gr_refl _ _))) hl1).mono ?_; rintro e w' ⟨u6, rfl, p6, g6⟩)
      | (go_at_call 10; refine (eqNet_any _ _ (P5.out.on (gr_then (gr_drew (gr_refl _ _)) g6)) p6.trips).mono ?_; simp only [decide_true]; rintro e w' ⟨rfl, g7⟩))
  go_wp2
  go_ret
  exact ⟨rfl, gr_then HG5.out (gr_then (gr_then (gr_drew (gr_refl _ _)) g6) g7)⟩
end Go.Proofs.Ytbkpphcmdjllnaa
