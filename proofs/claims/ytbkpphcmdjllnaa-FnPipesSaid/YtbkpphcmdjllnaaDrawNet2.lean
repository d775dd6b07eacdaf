/- The drawn net: walk. -/
import Derived.Test.YtbkpphcmdjllnaaDrawNet
import Derived.Deep.DeepCutAuto
import Derived.Deep.RegionLaw
namespace Go.Proofs.Ytbkpphcmdjllnaa
open Go.RowKit

/-- A net in the making: its box, the result's box behind it, the row that its field names, the cursor. -/
structure NInv (PT T CT : TypeId) (w : World) (C D : Nat) (n : Int) (u : Value) (k : Nat) (pl : List Value) (W : World) : Prop where
  op : W.ownsRow w.heap.size PT 3 u k pl
  box : Blq W D #[.int .i64 n, u] T
  far : w.heap.size < D
  res : Blq W w.heap.size #[.int .i64 0, .slice none 0 0] T
  cur : Cur CT W C
  gr : Gr w W (some C)
section
variable {PT T CT : TypeId} {w W W' : World} {C D k : Nat} {n : Int} {u : Value} {pl : List Value}
theorem NInv.draw (h : NInv PT T CT w C D n u k pl W) (hg : Gr W W' (some C)) (hc : Cur CT W' C) (hC : C < w.heap.size) : NInv PT T CT w C D n u k pl W' :=
  ⟨own_cur h.op hg hC, h.box.kept hg (by have := h.far; simp; omega), h.far, h.res.kept hg (by simp; omega), hc, gr_same h.gr hg⟩
theorem NInv.al (h : NInv PT T CT w C D n u k pl W) (o : Obj) : NInv PT T CT w C D n u k pl (W.alloc o) :=
  ⟨h.op.alloc o, h.box.kept (gr_alloc (gr_refl _ none) _) (by simp), h.far, h.res.kept (gr_alloc (gr_refl _ none) _) (by simp), h.cur.on (gr_alloc (gr_refl _ _) _), gr_alloc h.gr _⟩
theorem NInv.app (h : NInv PT T CT w C D n u k pl W) (hC : C < w.heap.size) (h2 : T ≠ PT) {u' : Value} {k' : Nat} {pl' : List Value} (ho : W'.ownsRow w.heap.size PT 3 u' k' pl') (hg : Gr W W' u.ownBlock) :
    Blq W' D #[.int .i64 n, u] T ∧ NInv PT T CT w C D n u' k' pl' (W'.setCell ⟨D, 1, none⟩ u') := by
  have hD := h.far
  have hlo : ∀ i, u.ownBlock = some i → w.heap.size ≤ i := fun i e => (h.op.lt i e).1
  have hb := h.box.kept hg (own_ne_blq h.op h.box h2)
  have hr := h.res.kept hg (own_ne_blq h.op h.res h2)
  exact ⟨hb, own_setq ho hb h2 _ _, blq_s1 hb _, hD, blq_other hr (by omega), cur_set (h.cur.kept hg (fun i e => by have := hlo i e; omega)) (by omega) _, gr_set (gr_trans h.gr hg (fun i e => .inr (hlo i e))) (p := ⟨D, 1, none⟩) (.inr (by simp; omega)) _⟩
end
theorem src_three (w : World) (a b c : Int) (t : TypeId) : SrcC (w.alloc (.cells #[.int .i64 a, .int .i64 b, .int .i64 c] t)) 3 (.slice (some ⟨w.heap.size, 0, none⟩) 1 1) 1 [.int .i64 a, .int .i64 b, .int .i64 c] :=
  ⟨rfl, three_int _ _ _, .inl ⟨_, _, rfl, new_three w _ _ _ t⟩⟩
def RetDN (PT CT : TypeId) (w : World) (C : Nat) (e : Ending) (w' : World) : Prop := ∃ (n : Nat) (u : Value) (ts : List Tri), e = .returned (.agg #[.int .i64 n, u]) ∧ netB n ts = true ∧ OwnT PT w' w.heap.size u ts ∧ Cur CT w' C ∧ Gr w w' (some C)
set_option maxHeartbeats 4000000 in
theorem l08Net_any {C : Nat} (w : World) (h : Cur 63 w C) : Calls Try.prog 27 #[.pointer (some ⟨C, 0, none⟩)] w (RetDN 45 63 w C) := by
  have hC := h.lt
  have HC0 := hid (h.on (gr_alloc (gr_refl w none) (.cells #[.int .i64 0, .slice none 0 0] 29)))
  have R0 := hid (blq_new w #[.int .i64 0, .slice none 0 0] 29)
  obtain ⟨i0, hi, hz0, hz1, hz2⟩ := info_parts info_pipe
  clear h
  go_enter Try.func27, Try.ntmps27
  go_wp2_with fail
  refine (l01Below_any _ _ HC0.out (by omega) (by omega)).mono ?_
  rintro e w1 ⟨x, x0, x1, rfl, hc1, g1⟩
  obtain ⟨x, rfl⟩ := Int.eq_ofNat_of_zero_le x0
  have G1 := gr_same (gr_mono (gr_alloc (gr_refl w none) _)) g1
  have R1 := R0.out.kept g1 (by simp; omega)
  have hD : w.heap.size < w1.heap.size := R1.lt
  have D1 : NInv 45 29 63 w C w1.heap.size (2 + x) (.slice none 0 0) 0 [] (w1.alloc (.cells #[.int .i64 (2 + x), .slice none 0 0] 29)) :=
    ⟨World.ownsRow_nil _ _ _ _, blq_new w1 _ _, hD, R1.kept (gr_alloc (gr_refl _ none) _) (by simp), hc1.on (gr_alloc (gr_refl _ _) _), gr_alloc G1 _⟩
  have HD1 := hid D1
  clear G1 R1 R0 HC0 hc1 g1 D1
  go_wp2_with fail
  refine (l01Below_any _ _ HD1.out.cur (by omega) (by omega)).mono ?_
  rintro e w2 ⟨m, m0, m1, rfl, hc2, g2⟩
  have HD2 := hid (HD1.out.draw g2 hc2 hC)
  clear HD1 hc2 g2
  generalize w1.heap.size = D at *
  go_wp2_with fail
  go_loopw [4, 5, 6] (fun j _ _ wr => ∃ (i : Int) (ts : List Tri) (u : Value), 0 ≤ i ∧ i + ts.length ≤ 9 ∧ j = .int .i64 i ∧ (∀ t ∈ ts, SmallP (2 + x) t) ∧ NInv 45 29 63 w C D (2 + x) u ts.length (tcells ts) wr) (fun j _ _ _ => (intOf j).toNat)
  case atStart => exact ⟨m, [], _, m0, by simp; omega, rfl, by simp, HD2.out⟩
  case round =>
    obtain ⟨i, ts, u, hi0, hi9, rfl, hsm, hI⟩ := hrel
    obtain ⟨ua, uc, rfl⟩ := sl_own' hI.op
    have HSM := hid hsm
    have HI := hid hI
    clear hsm hI HD2
    by_cases hlt : 0 < i
    · obtain ⟨q0, q1, -, -⟩ := cells2 HI.out.box
      go_wp2_with fail
      refine (l01Below_any _ _ HI.out.cur (by omega) (by omega)).mono ?_
      rintro e w3 ⟨a, a0, a1, rfl, hc3, g3⟩
      have HI3 := hid (HI.out.draw g3 hc3 hC)
      clear HI hc3 g3 q0 q1
      go_upto_region 6 with fail
      go_cut [6] (fun bv wx => ∃ b : Int, bv = .int .i64 b ∧ (0 ≤ b ∧ b ≤ 2 + (x : Int) - 1 ∧ a ≠ b) ∧ NInv 45 29 63 w C D (2 + x) (.slice ua ts.length uc) ts.length (tcells ts) wx)
      case first =>
        have hDC : C ≠ D := by have := HI3.out.far; omega
        have hq := (cells2 HI3.out.box).1
        have HON : Hid (∀ W W' : World, (W.cell? ⟨D, 0, none⟩ = some (.int .i64 (2 + (x : Int))) ∧ Gr w3 W (some C)) → Gr W W' (some C) → (W'.cell? ⟨D, 0, none⟩ = some (.int .i64 (2 + (x : Int))) ∧ Gr w3 W' (some C))) := fun W W' hh g => ⟨(gr_cellr g (World.block_lt_of_cell? W _ hh.1) (by simp; exact hDC)).trans hh.1, gr_same hh.2 g⟩
        have HS0 : Hid (w3.drew.cell? ⟨D, 0, none⟩ = some (.int .i64 (2 + (x : Int))) ∧ Gr w3 w3.drew (some C)) := ⟨by simpa [go_sem] using hq, gr_drew (gr_refl _ _)⟩
        have HC3 := hid (HI3.out.draw (gr_drew (gr_refl w3 (some C))) (HI3.out.cur.on (gr_drew (gr_refl _ _))) hC)
        have w1' : IntKind.i64.wrap (a + 1) = a + 1 := IntWalk.i64_in _ (by omega)
        have w2' : IntKind.i64.wrap (2 + (x : Int) - 1) = 2 + (x : Int) - 1 := IntWalk.i64_in _ (by omega)
        have hn0 : ¬ (2 + (x : Int)) = 0 := by omega
        have hn0' : ((2 + (x : Int)) == 0) = false := by rw [beq_eq_false_iff_ne]; exact hn0
        have hD3 := HI3.out.far
        refine wp_region_noPanic ?_
        refine wp_region_held_drew (S := fun w' => w'.cell? ⟨D, 0, none⟩ = some (.int .i64 (2 + (x : Int))) ∧ Gr w3 w' (some C)) (by kernel_rfl) HS0 (fun hHeld => ?_)
        (refine wpAnyH_take (i := 0) (v := ?_) rfl (by kernel_rfl) (by kernel_rfl) (by kernel_rfl) (fun _ _ _ h => h) (Or.inl ⟨by rfl, ?_⟩) (by assumption) ?_; rotate_left; · (intro w hSw; (try dsimp only at hSw); go_simp <;> with_reducible rfl); try simp only [Act.put, List.setIfInBounds_toArray, List.set_cons_zero, List.set_cons_succ])
        (refine wpAnyH_take (i := 1) (v := ?_) rfl (by kernel_rfl) (by kernel_rfl) (by kernel_rfl) (fun _ _ _ h => h) (Or.inl ⟨by rfl, ?_⟩) (by assumption) ?_; rotate_left; · (intro w hSw; (try dsimp only at hSw); go_simp <;> with_reducible rfl); try simp only [Act.put, List.setIfInBounds_toArray, List.set_cons_zero, List.set_cons_succ])
        (refine wpAnyH_take (i := 2) (v := ?_) rfl (by kernel_rfl) (by kernel_rfl) (by kernel_rfl) (fun _ _ _ h => h) (Or.inl ⟨by rfl, ?_⟩) (by assumption) ?_; rotate_left; · (intro w hSw; (try dsimp only at hSw); go_simp <;> with_reducible rfl); try simp only [Act.put, List.setIfInBounds_toArray, List.set_cons_zero, List.set_cons_succ])
        (refine wpAnyH_take (i := 3) (v := ?_) rfl (by kernel_rfl) (by kernel_rfl) (by kernel_rfl) (fun _ _ _ h => h) (Or.inl ⟨by rfl, ?_⟩) (by assumption) ?_; rotate_left; · (intro w hSw; (try dsimp only at hSw); go_simp <;> with_reducible rfl); try simp only [Act.put, List.setIfInBounds_toArray, List.set_cons_zero, List.set_cons_succ])
        (refine wpAnyH_take (i := 4) (v := ?_) rfl (by kernel_rfl) (by kernel_rfl) (by kernel_rfl) (fun _ _ _ h => h) (Or.inl ⟨by rfl, ?_⟩) (by assumption) ?_; rotate_left; · (intro w hSw; (try dsimp only at hSw); go_simp <;> with_reducible rfl); try simp only [Act.put, List.setIfInBounds_toArray, List.set_cons_zero, List.set_cons_succ])
        (refine wpAnyH_take (i := 5) (v := ?_) rfl (by kernel_rfl) (by kernel_rfl) (by kernel_rfl) (fun _ _ _ h => h) (Or.inl ⟨by rfl, ?_⟩) (by assumption) ?_; rotate_left; · (intro w hSw; (try dsimp only at hSw); go_simp <;> with_reducible rfl); try simp only [Act.put, List.setIfInBounds_toArray, List.set_cons_zero, List.set_cons_succ])
        (refine wpAnyH_take (i := 8) (v := ?_) rfl (by kernel_rfl) (by kernel_rfl) (by kernel_rfl) (fun _ _ _ h => h) (Or.inl ⟨by rfl, ?_⟩) (by assumption) ?_; rotate_left; · (intro w hSw; (try dsimp only at hSw); go_simp <;> with_reducible rfl); try simp only [Act.put, List.setIfInBounds_toArray, List.set_cons_zero, List.set_cons_succ])
        (refine wpAnyH_take (i := 9) (v := ?_) rfl (by kernel_rfl) (by kernel_rfl) (by kernel_rfl) (fun _ _ _ h => h) (Or.inl ⟨by rfl, ?_⟩) (by assumption) ?_; rotate_left; · (intro w hSw; (try dsimp only at hSw); go_simp <;> with_reducible rfl); try simp only [Act.put, List.setIfInBounds_toArray, List.set_cons_zero, List.set_cons_succ])
        refine wpAnyH_ready (rs := [6]) (by kernel_rfl) (by simp) ?_
        refine AllReadyH.cons rfl (fun K hK => ?_) AllReadyH.nil
        go_simp
        refine (l01Below_any _ _ HC3.out.cur (by omega) (by omega)).mono ?_; rintro e w4 ⟨y, y0, y1, rfl, hc4, g4⟩; have w3' : IntKind.i64.wrap (a + 1 + y) = a + 1 + y := IntWalk.i64_in _ (by omega)
        go_wp2_with fail
        refine hK.out _ _ (HON _ _ HS0 g4) (fun hHeld => ?_)
        clear hK K
        try simp only [Act.put, List.setIfInBounds_toArray, List.set_cons_zero, List.set_cons_succ]
        (refine wpAnyH_take (i := 7) (v := ?_) rfl (by kernel_rfl) (by kernel_rfl) (by kernel_rfl) (fun _ _ _ h => h) (Or.inl ⟨by rfl, ?_⟩) (by assumption) ?_; rotate_left; · (intro w hSw; (try dsimp only at hSw); go_simp <;> with_reducible rfl); try simp only [Act.put, List.setIfInBounds_toArray, List.set_cons_zero, List.set_cons_succ])
        (refine wpAnyH_take (i := 10) (v := ?_) rfl (by kernel_rfl) (by kernel_rfl) (by kernel_rfl) (fun _ _ _ h => h) (Or.inl ⟨by rfl, ?_⟩) (by assumption) ?_; rotate_left; · (intro w hSw; (try dsimp only at hSw); go_simp <;> with_reducible rfl); try simp only [Act.put, List.setIfInBounds_toArray, List.set_cons_zero, List.set_cons_succ])
        (refine wpAnyH_take (i := 11) (v := ?_) rfl (by kernel_rfl) (by kernel_rfl) (by kernel_rfl) (fun _ _ _ h => h) (Or.inl ⟨by rfl, ?_⟩) (by assumption) ?_; rotate_left; · (intro w hSw; (try dsimp only at hSw); go_simp <;> with_reducible rfl); try simp only [Act.put, List.setIfInBounds_toArray, List.set_cons_zero, List.set_cons_succ])
        refine wpAnyH_done (by kernel_rfl) ?_ _
        refine NoPanic.normal ?_
        have HI4 := hid (HC3.out.draw g4 hc4 hC)
        have HE : 0 ≤ (a + 1 + y).tmod (2 + (x : Int)) ∧ (a + 1 + y).tmod (2 + (x : Int)) ≤ 2 + (x : Int) - 1 ∧ a ≠ (a + 1 + y).tmod (2 + (x : Int)) := by
          rw [Int.tmod_eq_emod_of_nonneg (by omega)]
          exact other_end (by omega) (by omega)
        go_wp2_with fail
        go_meet
        exact ⟨_, rfl, HE, HI4.out⟩
      case rest =>
        obtain ⟨b, rfl, hb, hI6⟩ := hcut
        have HI6 := hid (hI6.draw (gr_drew (gr_refl _ _)) (hI6.cur.on (gr_drew (gr_refl _ _))) hC)
        have HSB := hid hb
        have HX := hid (And.intro a0 a1)
        obtain ⟨-, q1, -, -⟩ := cells2 hI6.box
        clear hI6 hb HI3
        go_upto_region 7 with fail
        go_region_law (first
          | (go_simp; refine (l01Below_any _ _ HI6.out.cur (by omega) (by omega)).mono ?_; rintro e w4 ⟨y, y0, y1, rfl, hc4, g4⟩; have HI7 := hid (HI6.out.draw g4 hc4 hC); have HI7a := hid (HI7.out.al (.cells #[.int .i64 a, .int .i64 b, .int .i64 (1 + y)] 45)); have q1b := (cells2 HI7.out.box).2.1; have q1c := (cells2 HI7a.out.box).2.1; have hw4 : IntKind.i64.wrap (1 + y) = 1 + y := IntWalk.i64_in _ (by omega); clear hc4 g4)
          | (refine step_append_srcC _ (by rfl) _ _ _ (by rfl) w.heap.size 45 i0 (.agg #[.int .i64 0, .int .i64 0, .int .i64 0]) 3 24 Try.underlying27 hi hz0 hz1 hz2 (by rfl) (by decide) _ ts.length (tcells ts) (by rfl) HI7a.out.op _ 1 [.int .i64 a, .int .i64 b, .int .i64 (1 + y)] (by rfl) (src_three _ _ _ _ _) (by unfold maxLen; omega) (by omega) (by have := gr_le HI7a.out.gr; exact this) ?_; intro u' w5 hown' hgrow; obtain ⟨ua', uc', rfl⟩ := sl_own' hown'; obtain ⟨hb5, hd5⟩ := HI7a.out.app hC (by decide) hown' hgrow; obtain ⟨_, p1, _, f1⟩ := cells2 hb5; have HD5 := hid hd5; clear hown' hgrow hb5 hd5))
        all_goals (
          have HY := hid (And.intro y0 y1)
          clear y0 y1 q1b q1c q1 p1 f1 hw4 HI7a HI7 HI6
          go_wp2
          go_roundw
          case rel => exact ⟨i - 1, ts ++ [(a, b, 1 + y)], _, by omega, by simp; omega, by go_num, fun t ht => by
            rcases List.mem_append.1 ht with h1 | h1
            · exact HSM.out t h1
            · have h2 := HSB.out
              have h3 := HX.out
              have h4 := HY.out
              simp only [List.mem_singleton] at h1
              subst h1
              exact ⟨⟨h3.1, by simp only; omega⟩, ⟨h2.1, h2.2.1⟩, h2.2.2, by simp only; omega, by simp only; omega⟩, by rw [tcells_append, List.length_append]; exact HD5.out⟩
          case measure => simp [intOf]; omega)
    · obtain ⟨q0, q1, -, -⟩ := cells2 HI.out.box
      obtain ⟨_, _, f0, f1⟩ := cells2 HI.out.res
      have hDR := HI.out.far
      obtain ⟨m0, m1', -, -⟩ := cells2 (blq_set (x0 := .int .i64 (2 + x)) (x1 := .slice ua ts.length uc) HI.out.res)
      have HN : Hid (netB (((2 + x : Nat)) : Int) ts = true) := hid (by
        rw [show (((2 + x : Nat)) : Int) = 2 + (x : Int) by omega]
        exact drawn_net (by omega) (by omega) (by omega) HSM.out)
      have HE := hid (And.intro (show OwnT 45 ((wr.setCell ⟨w.heap.size, 0, none⟩ (.int .i64 (2 + x))).setCell ⟨w.heap.size, 1, none⟩ (.slice ua ts.length uc)) w.heap.size (.slice ua ts.length uc) ts from ⟨i64_sp (by omega) HSM.out, own_setq (own_setq HI.out.op HI.out.res (by decide) _ _) (blq_s0 HI.out.res _) (by decide) _ _⟩) (And.intro (cur_set (cur_set HI.out.cur hC (o := 0) (.int .i64 (2 + x))) hC (o := 1) (.slice ua ts.length uc)) (gr_set (gr_set HI.out.gr (p := ⟨w.heap.size, 0, none⟩) (.inr (Nat.le_refl _)) (.int .i64 (2 + x))) (p := ⟨w.heap.size, 1, none⟩) (.inr (Nat.le_refl _)) (.slice ua ts.length uc))))
      clear HI hi9
      go_wp2
      exact bodyPost_ret (v := .agg #[.int .i64 (2 + x), .slice ua ts.length uc]) (by simp [results, Try.results27, go_sem, m0, m1']) rfl ⟨2 + x, _, ts, by rw [show (((2 + x : Nat)) : Int) = 2 + (x : Int) by omega], HN.out, HE.out⟩
end Go.Proofs.Ytbkpphcmdjllnaa
