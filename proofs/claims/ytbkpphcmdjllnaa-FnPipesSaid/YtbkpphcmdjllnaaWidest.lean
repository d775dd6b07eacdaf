/- The widest way and what is reached: walks. -/
import Derived.Test.YtbkpphcmdjllnaaReach
namespace Go.Proofs.Ytbkpphcmdjllnaa
open Go.RowKit

def isPl (n : Int) (ts : List Tri) (p : Int) : Bool := netB n ts && inB p 0 (n - 1)
/-- Two places that differ. -/
theorem twoPlaces_any {u : Value} {ts : List Tri} (n a b : Int) (w : World) (hu : Trips w u ts) (h1 : isPl n ts a = true) (h2 : isPl n ts b = true) (hab : a ≠ b) :
    Calls Try.prog 29 #[.agg #[.int .i64 n, u], .int .i64 a, .int .i64 b] w fun e w' => e = .returned (.bool true) ∧ Gr w w' none := by
  have HU := hid hu
  have H1 := hid h1
  have H2 := hid h2
  have hne : (a != b) = true := by simpa using hab
  obtain ⟨_, sa, cap, rfl, _, _, hat⟩ := hu
  clear hat h1 h2 hab
  go_enter Try.func29, Try.ntmps29
  go_wp2_with fail
  refine (isPlace_any _ _ _ (HU.out.on (gr_alloc (gr_refl _ _) _))).mono ?_
  rw [show (netB n ts && inB a 0 (n - 1)) = true from H1.out]
  rintro e w1 ⟨rfl, g1⟩
  have k0 := (gr_cell g1 w.heap.size 0 (by simp)).trans (by simp [go_sem] : _ = some (Value.int .i64 n))
  have k1 := (gr_cell g1 w.heap.size 1 (by simp)).trans (by simp [go_sem] : _ = some (Value.slice sa ts.length cap))
  have G1 : Gr w w1 none := gr_then (by repeat (first | (with_reducible exact gr_refl _ _) | (with_reducible assumption) | (with_reducible refine gr_drew ?_) | (with_reducible refine gr_drewN ?_ _) | (with_reducible refine gr_alloc ?_ _) | (with_reducible refine gr_set ?_ (.inr (by simp; done)) _) | (with_reducible refine gr_set ?_ (.inr (by simp; omega)) _) | (with_reducible refine gr_then ?_ (by with_reducible assumption)))) g1
  have HG1 := hid G1
  clear g1 G1
  go_wp2_with fail
  refine (isPlace_any _ _ _ (HU.out.on HG1.out)).mono ?_
  rw [show (netB n ts && inB b 0 (n - 1)) = true from H2.out]
  rintro e w2 ⟨rfl, g2⟩
  have HG2 := hid (gr_then HG1.out g2)
  clear g2
  go_wp2
  go_ret
  exact ⟨rfl, HG2.out⟩
theorem best_bd {n : Nat} {ts : List Tri} {a b : Nat} (hb : netB n ts = true) : ∀ k, k ≤ ts.length → 0 ≤ bestTo n ts a b k ∧ bestTo n ts a b k ≤ 1000
  | 0, _ => ⟨Int.le_refl _, by show (0 : Int) ≤ 1000; omega⟩
  | k + 1, hk => by
    have ih := best_bd (a := a) (b := b) hb k (by omega)
    have := ((netB_parts hb).2.2 k (by omega)).2.2.2
    unfold bestTo
    split <;> omega
theorem reach_lt {n a : Nat} {ts : List Tri} {wd : Int} (hb : netB n ts = true) (ha : a < n) : reachM ts wd a n < 256 :=
  set_lt (fun p hp => path_lt (inN_net hb) ha (reachM_path n p hp)) (by have := (netB_parts hb).1; omega)
theorem widestWay_any {u : Value} {ts : List Tri} (n a b : Nat) (w : World) (hu : Trips w u ts) (hb : netB n ts = true) (ha : a < n) (hbn : b < n) (hab : a ≠ b) :
    Calls Try.prog 15 #[.agg #[.int .i64 n, u], .int .i64 a, .int .i64 b] w fun e w' => e = .returned (.int .i64 (bestTo n ts a b ts.length)) ∧ Gr w w' none := by
  have HU := hid hu
  obtain ⟨_, sa, cap, rfl, hcap, hmax, hat⟩ := hu
  unfold maxLen at hmax
  obtain ⟨⟨hn2, hn8⟩, hl, hx⟩ := netB_parts hb
  have HX := hid hx
  have hl20 : (ts.length : Int) ≤ 20 := by omega
  have HB := hid hb
  have P1 : Hid (isPl n ts a = true) := by show _ = _; rw [isPl, hb, inB_mk (by omega)]; rfl
  have P2 : Hid (isPl n ts b = true) := by show _ = _; rw [isPl, hb, inB_mk (by omega)]; rfl
  have hab' : (a : Int) ≠ b := by omega
  have HAB := hid hab'
  generalize hR : bestTo n ts a b ts.length = R
  have HR := hid hR
  clear hx hb hab hab' hR
  go_enter Try.func15, Try.ntmps15
  go_wp2_with fail
  refine (twoPlaces_any _ _ _ _ (HU.out.on (gr_alloc (gr_refl _ _) _)) P1.out P2.out HAB.out).mono ?_
  rintro e w1 ⟨rfl, g1⟩
  have k0 := (gr_cell g1 w.heap.size 0 (by simp)).trans (by simp [go_sem] : _ = some (Value.int .i64 (n : Int)))
  have k1 := (gr_cell g1 w.heap.size 1 (by simp)).trans (by simp [go_sem] : _ = some (Value.slice sa ts.length cap))
  have G1 : Gr w w1 none := gr_then (by repeat (first | (with_reducible exact gr_refl _ _) | (with_reducible assumption) | (with_reducible refine gr_drew ?_) | (with_reducible refine gr_drewN ?_ _) | (with_reducible refine gr_alloc ?_ _) | (with_reducible refine gr_set ?_ (.inr (by simp; done)) _) | (with_reducible refine gr_set ?_ (.inr (by simp; omega)) _) | (with_reducible refine gr_then ?_ (by with_reducible assumption)))) g1
  clear g1
  go_wp2_with fail
  go_loopw [7, 9, 18] (fun s _ i wr => ∃ k : Nat, k ≤ ts.length ∧ i = .int .i64 k ∧ s = .int .i64 (bestTo n ts a b k) ∧ wr.cell? ⟨w.heap.size, 0, none⟩ = some (.int .i64 n) ∧ wr.cell? ⟨w.heap.size, 1, none⟩ = some (.slice sa ts.length cap) ∧ Gr w wr none) (fun _ _ i _ => ts.length - (intOf i).toNat)
  case atStart => exact ⟨0, Nat.zero_le _, rfl, rfl, k0, k1, G1⟩
  case round =>
    obtain ⟨k, hk, rfl, rfl, c0, c1, hg⟩ := hrel
    have hzb : w.heap.size < wr.heap.size := World.block_lt_of_cell? wr _ c0
    have C0 := hid (cell_on (gr_alloc (gr_refl wr none) (.cells #[.int .i64 (gt ts k).1, .int .i64 (gt ts k).2.1, .int .i64 (gt ts k).2.2] 45)) c0)
    have C1 := hid (cell_on (gr_alloc (gr_refl wr none) (.cells #[.int .i64 (gt ts k).1, .int .i64 (gt ts k).2.1, .int .i64 (gt ts k).2.2] 45)) c1)
    have HG := hid (gr_alloc hg (.cells #[.int .i64 (gt ts k).1, .int .i64 (gt ts k).2.1, .int .i64 (gt ts k).2.2] 45))
    by_cases hlt : k < ts.length
    · have hlt' : (k : Int) < ts.length := by omega
      obtain ⟨b0, off, rfl, hc⟩ : ∃ b off, sa = some ⟨b, off, none⟩ ∧ TripsAt w b off ts := by
        rcases hat with h0 | h0
        · subst h0; simp at hlt
        · exact h0
      obtain ⟨t1, t2, t3⟩ := (hc.kept hg (by simp)) k hlt
      have E : Hid (bestTo n ts a b (k + 1) = if bestTo n ts a b k < (gt ts k).2.2 ∧ (reachM ts (gt ts k).2.2 a n).testBit b = true then (gt ts k).2.2 else bestTo n ts a b k) := rfl
      have hM := reach_lt (wd := (gt ts k).2.2) HB.out ha
      generalize gt ts k = T at *
      obtain ⟨f, t, d⟩ := T
      dsimp only at *
      generalize bestTo n ts a b k = S at E ⊢
      generalize hMM : reachM ts d a n = M at hM E
      have HM := hid hMM
      have hbf := bit_fact (f := b) hM
      clear hc hat hg hMM hM
      by_cases hd : S < d
      · go_wp2_with fail
        refine (reach_any n a d _ (HU.out.on HG.out) HB.out ha).mono ?_
        rw [HM.out]
        rintro e w3 ⟨rfl, g3⟩
        have hw0 := (cell_on g3 (by simp [go_sem] : (wr.alloc (.cells #[.int .i64 f, .int .i64 t, .int .i64 d] 45)).cell? ⟨wr.heap.size, 2, none⟩ = some (.int .i64 d)))
        have C0' := hid (cell_on g3 C0.out)
        have C1' := hid (cell_on g3 C1.out)
        have HG' := hid (gr_then HG.out g3)
        clear c0 c1 C0 C1 HG g3 t1 t2 t3
        cases hbit : M.testBit b
        · have hb1 : (bits .and .i64 ((M : Int) / 2 ^ b) 1 == 1) = false := hbf.trans hbit
          have HE : Hid (bestTo n ts a b (k + 1) = S) := by show _ = _; rw [E.out, if_neg]; simp [hbit]
          clear hbit hbf E
          go_wp2
          go_roundw
          case rel => exact ⟨k + 1, by omega, by go_num, by rw [HE.out], C0'.out, C1'.out, HG'.out⟩
          case measure => simp [intOf]; omega
        · have hb1 : (bits .and .i64 ((M : Int) / 2 ^ b) 1 == 1) = true := hbf.trans hbit
          have HE : Hid (bestTo n ts a b (k + 1) = d) := by show _ = _; rw [E.out, if_pos ⟨hd, hbit⟩]
          clear hbit hbf E
          go_wp2
          go_roundw
          case rel => exact ⟨k + 1, by omega, by go_num, by rw [HE.out], C0'.out, C1'.out, HG'.out⟩
          case measure => simp [intOf]; omega
      · have HE : Hid (bestTo n ts a b (k + 1) = S) := by show _ = _; rw [E.out, if_neg]; exact fun h => hd h.1
        clear hbf E
        go_wp2
        go_roundw
        case rel => exact ⟨k + 1, by omega, by go_num, by rw [HE.out], C0.out, C1.out, HG.out⟩
        case measure => simp [intOf]; omega
    · have hkl : k = ts.length := by omega
      subst hkl
      clear hat C0 C1 HG
      go_wp2
      go_ret
      exact ⟨by rw [← HR.out]; rfl, hg⟩
end Go.Proofs.Ytbkpphcmdjllnaa
