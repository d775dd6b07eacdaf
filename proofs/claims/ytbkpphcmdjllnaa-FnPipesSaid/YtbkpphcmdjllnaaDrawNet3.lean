/- The drawn net with its two ends: walk. -/
import Derived.Test.YtbkpphcmdjllnaaDrawNet2
namespace Go.Proofs.Ytbkpphcmdjllnaa
open Go.RowKit

def RetDE (PT : TypeId) (w : World) (e : Ending) (w' : World) : Prop := ∃ (n a b : Nat) (u : Value) (ts : List Tri), e = .returned (.tuple #[.agg #[.int .i64 n, u], .int .i64 a, .int .i64 b]) ∧ netB n ts = true ∧ (a < n ∧ b < n ∧ a ≠ b) ∧ OwnT PT w' w.heap.size u ts ∧ Gr w w' none
set_option maxHeartbeats 1000000 in
theorem drawNetEnds_any {v : Value} {k : Nat} (w : World) (h : BytesN w v k) (hk : k ≤ 1048576) : Calls Try.prog 14 #[v] w (RetDE 45 w) := by
  have B0 := hid (blq_new w #[.int .i64 0, .slice none 0 0] 29)
  obtain ⟨a, cap, rfl, _, _, _⟩ := id h
  have HN := hid (bytesN_kept' h (gr_alloc (gr_refl w none) (.cells #[.int .i64 0, .slice none 0 0] 29)) (by intro j e; cases e))
  clear h
  go_enter Try.func14, Try.ntmps14
  go_wp2_with fail
  refine (l01New_any _ HN.out hk).mono ?_
  rintro e w1 ⟨C, hC, rfl, hc, g1⟩
  have hCl := hc.lt
  go_wp2_with fail
  refine (l08Net_any _ hc).mono ?_
  rintro e w2 ⟨n, u, ts, rfl, hb, hu, hc2, g2⟩
  obtain ⟨ua, uc, rfl⟩ := sl_ownT hu
  simp only [World.size_alloc] at hC
  have z1 := gr_le g1
  simp only [World.size_alloc] at z1
  have z2 := gr_le g2
  obtain ⟨⟨hn1, hn2⟩, -, -⟩ := netB_parts hb
  have B3 := ((B0.out.kept g1 (by simp)).kept g2 (by simp; omega)).kept (gr_alloc (gr_refl w2 none) (.cells #[.int .i64 n, .slice ua ts.length uc] 29)) (by simp)
  have D3 := blq_new w2 #[.int .i64 n, .slice ua ts.length uc] 29
  have O3 := (hu.on (gr_alloc (gr_refl w2 none) (.cells #[.int .i64 n, .slice ua ts.length uc] 29)))
  have C3 := hc2.on (gr_alloc (gr_refl w2 none) (.cells #[.int .i64 n, .slice ua ts.length uc] 29))
  have G3 := gr_alloc (gr_trans (gr_then (gr_alloc (gr_refl w none) _) g1) g2 (fun j e => by cases e; exact .inr (by omega))) (.cells #[.int .i64 n, .slice ua ts.length uc] 29)
  go_upto_region 3 with fail
  generalize w2.alloc (.cells #[.int .i64 n, .slice ua ts.length uc] 29) = W3 at *
  have hDC : C ≠ w2.heap.size := by omega
  have hDR : w.heap.size ≠ w2.heap.size := by omega
  have hCR : C ≠ w.heap.size := by omega
  generalize w2.heap.size = D at *
  obtain ⟨q0, q1, -, -⟩ := cells2 D3
  have HB := hid hb
  have HC3 := hid C3
  have HB3 := hid B3
  have HD3 := hid D3
  have HO3 := hid O3
  have HG3 := hid G3
  clear hc hc2 hu hb B3 D3 O3 C3 G3 g1 g2 HN B0
  go_wp2_with fail
  refine (l01Below_any _ _ HC3.out (by omega) (by omega)).mono ?_
  rintro e w4 ⟨x, x0, x1, rfl, hc4, g4⟩
  obtain ⟨x, rfl⟩ := Int.eq_ofNat_of_zero_le x0
  have hnl : (x : Int) < n := by omega
  have B4 := HB3.out.kept g4 (by simp; exact hCR)
  have D4 := HD3.out.kept g4 (by simp; exact hDC)
  have O4 : OwnT 45 w4 w1.heap.size (.slice ua ts.length uc) ts := ⟨HO3.out.1, own_cur HO3.out.2 g4 hCl⟩
  have G4 : Gr w w4 none := gr_trans HG3.out g4 (fun j e => by cases e; exact .inr (by omega))
  have HC4 := hid (hc4.on (gr_drew (gr_refl _ none)))
  have HB4 := hid (B4.kept (gr_drew (gr_refl _ none)) (by simp))
  have HO4 : Hid (OwnT 45 w4.drew w1.heap.size (.slice ua ts.length uc) ts) := hid (O4.on (gr_drew (gr_refl _ none)))
  have HG4 := hid (gr_drew G4)
  obtain ⟨r0, r1, -, -⟩ := cells2 D4
  clear HC3 HB3 HD3 HO3 HG3 B4 D4 O4 G4 hc4 g4
  have HON : Hid (∀ W W' : World, (W.cell? ⟨D, 0, none⟩ = some (.int .i64 n) ∧ W.cell? ⟨D, 1, none⟩ = some (.slice ua ts.length uc)) → Gr W W' (some C) → (W'.cell? ⟨D, 0, none⟩ = some (.int .i64 n) ∧ W'.cell? ⟨D, 1, none⟩ = some (.slice ua ts.length uc))) := fun W W' hh g => ⟨(gr_cellr g (World.block_lt_of_cell? W _ hh.1) (by simp; exact hDC)).trans hh.1, (gr_cellr g (World.block_lt_of_cell? W _ hh.2) (by simp; exact hDC)).trans hh.2⟩
  have HSET : Hid (∀ (W : World) (p q : Value), (W.cell? ⟨D, 0, none⟩ = some (.int .i64 n) ∧ W.cell? ⟨D, 1, none⟩ = some (.slice ua ts.length uc)) → (((W.setCell ⟨w.heap.size, 0, none⟩ p).setCell ⟨w.heap.size, 1, none⟩ q).cell? ⟨D, 0, none⟩ = some (.int .i64 n) ∧ ((W.setCell ⟨w.heap.size, 0, none⟩ p).setCell ⟨w.heap.size, 1, none⟩ q).cell? ⟨D, 1, none⟩ = some (.slice ua ts.length uc))) := fun W p q hh => ⟨set_other (by simp <;> omega) (set_other (by simp <;> omega) hh.1), set_other (by simp <;> omega) (set_other (by simp <;> omega) hh.2)⟩
  have HS0 : Hid (w4.drew.cell? ⟨D, 0, none⟩ = some (.int .i64 n) ∧ w4.drew.cell? ⟨D, 1, none⟩ = some (.slice ua ts.length uc)) := ⟨by simpa [go_sem] using r0, by simpa [go_sem] using r1⟩
  have w1' : IntKind.i64.wrap ((x : Int) + 1) = x + 1 := IntWalk.i64_in _ (by omega)
  have w2' : IntKind.i64.wrap ((n : Int) - 1) = (n : Int) - 1 := IntWalk.i64_in _ (by omega)
  have hn0 : ¬ (n : Int) = 0 := by omega
  have hn0'' : ¬ n = 0 := by omega
  have hn0' : ((n : Int) == 0) = false := by rw [beq_eq_false_iff_ne]; exact hn0
  go_upto_region 4 with fail
  refine wp_region_noPanic ?_
  refine wp_region_held_drew (S := fun w' => w'.cell? ⟨D, 0, none⟩ = some (.int .i64 n) ∧ w'.cell? ⟨D, 1, none⟩ = some (.slice ua ts.length uc)) (by kernel_rfl) HS0.out (fun hHeld => ?_)
  (refine wpAnyH_take (i := 0) (v := ?_) rfl (by kernel_rfl) (by kernel_rfl) (by kernel_rfl) (fun _ _ _ h => h) (Or.inl ⟨by rfl, ?_⟩) (by assumption) ?_; rotate_left; · (intro w hSw; (try dsimp only at hSw); go_simp <;> with_reducible rfl); try simp only [Act.put, List.setIfInBounds_toArray, List.set_cons_zero, List.set_cons_succ])
  (refine wpAnyH_take (i := 1) (v := ?_) rfl (by kernel_rfl) (by kernel_rfl) (by kernel_rfl) (fun _ _ _ h => h) (Or.inl ⟨by rfl, ?_⟩) (by assumption) ?_; rotate_left; · (intro w hSw; (try dsimp only at hSw); go_simp <;> with_reducible rfl); try simp only [Act.put, List.setIfInBounds_toArray, List.set_cons_zero, List.set_cons_succ])
  (refine wpAnyH_take (i := 2) (v := ?_) rfl (by kernel_rfl) (by kernel_rfl) (by kernel_rfl) (fun _ _ _ h => h) (Or.inl ⟨by rfl, ?_⟩) (by assumption) ?_; rotate_left; · (intro w hSw; (try dsimp only at hSw); go_simp <;> with_reducible rfl); try simp only [Act.put, List.setIfInBounds_toArray, List.set_cons_zero, List.set_cons_succ])
  (refine wpAnyH_take (i := 3) (v := ?_) rfl (by kernel_rfl) (by kernel_rfl) (by kernel_rfl) (fun _ _ _ h => h) (Or.inl ⟨by rfl, ?_⟩) (by assumption) ?_; rotate_left; · (intro w hSw; (try dsimp only at hSw); go_simp <;> with_reducible rfl); try simp only [Act.put, List.setIfInBounds_toArray, List.set_cons_zero, List.set_cons_succ])
  (refine wpAnyH_take (i := 4) (v := ?_) rfl (by kernel_rfl) (by kernel_rfl) (by kernel_rfl) (fun _ _ _ h => h) (Or.inl ⟨by rfl, ?_⟩) (by assumption) ?_; rotate_left; · (intro w hSw; (try dsimp only at hSw); go_simp <;> with_reducible rfl); try simp only [Act.put, List.setIfInBounds_toArray, List.set_cons_zero, List.set_cons_succ])
  (refine wpAnyH_take (i := 5) (v := ?_) rfl (by kernel_rfl) (by kernel_rfl) (by kernel_rfl) (fun _ _ _ h => h) (Or.inl ⟨by rfl, ?_⟩) (by assumption) ?_; rotate_left; · (intro w hSw; (try dsimp only at hSw); go_simp <;> with_reducible rfl); try simp only [Act.put, List.setIfInBounds_toArray, List.set_cons_zero, List.set_cons_succ])
  (refine wpAnyH_take (i := 6) (v := ?_) rfl (by kernel_rfl) (by kernel_rfl) (by kernel_rfl) (fun _ _ _ h => h) (Or.inl ⟨by rfl, ?_⟩) (by assumption) ?_; rotate_left; · (intro w hSw; (try dsimp only at hSw); go_simp <;> with_reducible rfl); try simp only [Act.put, List.setIfInBounds_toArray, List.set_cons_zero, List.set_cons_succ])
  (refine wpAnyH_take (i := 7) (v := ?_) rfl (by kernel_rfl) (by kernel_rfl) (by kernel_rfl) (fun _ _ _ h => h) (Or.inl ⟨by rfl, ?_⟩) (by assumption) ?_; rotate_left; · (intro w hSw; (try dsimp only at hSw); go_simp <;> with_reducible rfl); try simp only [Act.put, List.setIfInBounds_toArray, List.set_cons_zero, List.set_cons_succ])
  (refine wpAnyH_take (i := 10) (v := ?_) rfl (by kernel_rfl) (by kernel_rfl) (by kernel_rfl) (fun _ _ _ h => h) (Or.inl ⟨by rfl, ?_⟩) (by assumption) ?_; rotate_left; · (intro w hSw; (try dsimp only at hSw); go_simp <;> with_reducible rfl); try simp only [Act.put, List.setIfInBounds_toArray, List.set_cons_zero, List.set_cons_succ])
  (refine wpAnyH_take (i := 11) (v := ?_) rfl (by kernel_rfl) (by kernel_rfl) (by kernel_rfl) (fun _ _ _ h => h) (Or.inl ⟨by rfl, ?_⟩) (by assumption) ?_; rotate_left; · (intro w hSw; (try dsimp only at hSw); go_simp <;> with_reducible rfl); try simp only [Act.put, List.setIfInBounds_toArray, List.set_cons_zero, List.set_cons_succ])
  refine wpAnyH_ready (rs := [8]) (by kernel_rfl) (by simp) ?_
  refine AllReadyH.cons rfl (fun K hK => ?_) AllReadyH.nil
  go_simp
  refine (l01Below_any _ _ HC4.out (by omega) (by omega)).mono ?_; rintro e w5 ⟨y, y0, y1, rfl, hc5, g5⟩; have w3' : IntKind.i64.wrap ((x : Int) + 1 + y) = x + 1 + y := IntWalk.i64_in _ (by omega)
  go_wp2_with fail
  refine hK.out _ _ (HON.out _ _ HS0.out g5) (fun hHeld => ?_)
  clear hK K
  try simp only [Act.put, List.setIfInBounds_toArray, List.set_cons_zero, List.set_cons_succ]
  (refine wpAnyH_take (i := 9) (v := ?_) rfl (by kernel_rfl) (by kernel_rfl) (by kernel_rfl) (fun _ _ _ h => h) (Or.inl ⟨by rfl, ?_⟩) (by assumption) ?_; rotate_left; · (intro w hSw; (try dsimp only at hSw); go_simp <;> with_reducible rfl); try simp only [Act.put, List.setIfInBounds_toArray, List.set_cons_zero, List.set_cons_succ])
  (refine wpAnyH_take (i := 12) (v := ?_) rfl (by kernel_rfl) (by kernel_rfl) (by kernel_rfl) (fun _ _ _ h => h) (Or.inl ⟨by rfl, ?_⟩) (by assumption) ?_; rotate_left; · (intro w hSw; (try dsimp only at hSw); go_simp <;> with_reducible rfl); try simp only [Act.put, List.setIfInBounds_toArray, List.set_cons_zero, List.set_cons_succ])
  have HB5 := hid (HB4.out.kept g5 (by simp; exact hCR))
  obtain ⟨_, _, f0, f1⟩ := cells2 HB5.out
  obtain ⟨s0, s1, _, _⟩ := cells2 HB5.out
  obtain ⟨m0, m1, -, -⟩ := cells2 (blq_set (x0 := .int .i64 n) (x1 := .slice ua ts.length uc) HB5.out)
  refine wpAnyH_ready (rs := [13]) (by kernel_rfl) (by simp) ?_
  refine AllReadyH.cons rfl (fun K hK => ?_) AllReadyH.nil
  go_simp
  refine hK.out _ _ (HSET.out _ _ _ (HON.out _ _ HS0.out g5)) (fun hHeld => ?_)
  clear hK K
  try simp only [Act.put, List.setIfInBounds_toArray, List.set_cons_zero, List.set_cons_succ]
  (refine wpAnyH_take (i := 14) (v := ?_) rfl (by kernel_rfl) (by kernel_rfl) (by kernel_rfl) (fun _ _ _ h => h) (Or.inl ⟨by rfl, ?_⟩) (by assumption) ?_; rotate_left; · (intro w hSw; (try dsimp only at hSw); go_simp <;> with_reducible rfl); try simp only [Act.put, List.setIfInBounds_toArray, List.set_cons_zero, List.set_cons_succ])
  (refine wpAnyH_take (i := 15) (v := ?_) rfl (by kernel_rfl) (by kernel_rfl) (by kernel_rfl) (fun _ _ _ h => h) (Or.inl ⟨by rfl, ?_⟩) (by assumption) ?_; rotate_left; · (intro w hSw; (try dsimp only at hSw); go_simp <;> with_reducible rfl); try simp only [Act.put, List.setIfInBounds_toArray, List.set_cons_zero, List.set_cons_succ])
  refine wpAnyH_done (by kernel_rfl) ?_ _
  refine NoPanic.normal ?_
  have HEN : 0 ≤ ((x : Int) + 1 + y).tmod (n : Int) ∧ ((x : Int) + 1 + y).tmod (n : Int) ≤ n - 1 ∧ (x : Int) ≠ ((x : Int) + 1 + y).tmod (n : Int) := by
    rw [Int.tmod_eq_emod_of_nonneg (by omega)]
    exact other_end (by omega) (by omega)
  generalize ((x : Int) + 1 + y).tmod (n : Int) = b at *
  obtain ⟨b0, b1, b2⟩ := HEN
  obtain ⟨b, rfl⟩ := Int.eq_ofNat_of_zero_le b0
  have HE : Hid (OwnT 45 ((w5.setCell ⟨w.heap.size, 0, none⟩ (.int .i64 n)).setCell ⟨w.heap.size, 1, none⟩ (.slice ua ts.length uc)) w.heap.size (.slice ua ts.length uc) ts ∧ Gr w ((w5.setCell ⟨w.heap.size, 0, none⟩ (.int .i64 n)).setCell ⟨w.heap.size, 1, none⟩ (.slice ua ts.length uc)) none) :=
    ⟨OwnT.mono (B := w1.heap.size) ⟨HO4.out.1, own_setq (own_setq (own_cur HO4.out.2 g5 hCl) HB5.out (by decide) _ _) (blq_s0 HB5.out _) (by decide) _ _⟩ (by omega), gr_set (gr_set (gr_trans HG4.out g5 (fun j e => by cases e; exact .inr (by omega))) (p := ⟨w.heap.size, 0, none⟩) (.inr (by simp)) _) (p := ⟨w.heap.size, 1, none⟩) (.inr (by simp)) _⟩
  have HX : x < n ∧ b < n ∧ x ≠ b := ⟨by omega, by omega, by omega⟩
  clear HO4 HB5 HB4 g5 hc5 f0 f1 s0 s1
  go_wp2
  exact bodyPost_ret (v := .tuple #[.agg #[.int .i64 n, .slice ua ts.length uc], .int .i64 x, .int .i64 b]) (by simp [results, Try.results14, go_sem, m0, m1]) rfl ⟨n, x, b, _, ts, rfl, HB.out, HX, HE.out⟩
end Go.Proofs.Ytbkpphcmdjllnaa
