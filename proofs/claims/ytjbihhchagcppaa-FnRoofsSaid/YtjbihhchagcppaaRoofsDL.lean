/- The law over drawn roofs, walked. -/
import Derived.Test.YtjbihhchagcppaaDrawRoof
import Derived.Test.YtjbihhchagcppaaDrawRain
import Derived.Test.YtjbihhchagcppaaCatches
import Derived.Test.YtjbihhchagcppaaArea
import Derived.Test.YtjbihhchagcppaaBetter
import Derived.Test.YtjbihhchagcppaaDays
import Derived.Test.YtjbihhchagcppaaLex
import Derived.Test.YtjbihhchagcppaaAppAny
import Derived.Test.YtjbihhchagcppaaRoofsP
import Derived.Deep.DeepCutAuto
namespace Go.Proofs.Ytjbihhchagcppaa
open Go.RowKit

theorem src_pair {w : World} {B : Nat} {x y : Int} (h0 : w.cell? ⟨B, 0, none⟩ = some (.int .i64 x)) (h1 : w.cell? ⟨B, 1, none⟩ = some (.int .i64 y)) : SrcC w 2 (.slice (some ⟨B, 0, none⟩) 1 1) 1 [.int .i64 x, .int .i64 y] := by
  refine ⟨rfl, two_int x y, .inl ⟨_, _, rfl, fun j u hj => ?_⟩⟩
  match j, hj with
  | 0, hj => simp at hj; subst hj; simpa [Addr.add] using h0
  | 1, hj => simp at hj; subst hj; simpa [Addr.add] using h1
  | j + 2, hj => simp at hj
theorem own_pairs {E : TypeId} {w : World} {B : Nat} {v : Value} {ps : List (Int × Int)} {q : Int × Int} (h : w.ownsRow B E 2 v (0 + ps.length + 1) (([] ++ pcells ps) ++ [.int .i64 q.1, .int .i64 q.2])) (h1 : ∀ x ∈ ps, I64 x.1 ∧ I64 x.2) (h2 : I64 q.1 ∧ I64 q.2) : Pairs w v (ps ++ [q]) := by
  refine OwnP.pairs (E := E) (B := B) ⟨fun x hx => ?_, ?_⟩
  · rcases List.mem_append.1 hx with h | h
    · exact h1 x h
    · simp at h; subst h; exact h2
  · rw [pcells_snoc]
    simpa [Nat.add_comm, Nat.add_left_comm] using h
theorem rain_small {xs : List Int} (h : Small xs) : rainB xs = true := by
  obtain ⟨h1, h2, h3⟩ := h
  rw [rainB, inB_mk (by omega), allB_mk (fun i hi => inB_mk (by have := h3 _ (gi_mem hi); omega))]; rfl
set_option maxRecDepth 100000 in
set_option maxHeartbeats 8000000 in
theorem walk_FnRoofs (v : Value) (n : Nat) (w : World) (h : BytesN w v n) :
    Calls Try.prog 3 #[v] w fun e w' => e = .returned (.bool true) ∧ Gr w w' none := by
  obtain ⟨a0, cap0, rfl, _⟩ := id h
  by_cases hn : n ≤ 1048576
  case neg =>
    have hb : decide (1048576 < (n : Int)) = true := by simp; omega
    go_enter Try.func3, Try.ntmps3
    go_wp2_with fail
    refine (big_any _ h).mono ?_
    rw [hb]
    rintro e w' ⟨rfl, rfl⟩
    go_wp2
    go_ret
    exact ⟨rfl, gr_refl _ _⟩
  case pos =>
  have hb : decide (1048576 < (n : Int)) = false := by simp; omega
  obtain ⟨i0, hi, hz0, hz1, hz2⟩ := info_parts info_roof
  go_enter Try.func3, Try.ntmps3
  go_wp2_with fail
  refine (big_any _ h).mono ?_
  rw [hb]
  rintro e w' ⟨rfl, rfl⟩
  have HN := hid h
  clear h hb
  go_wp2_with fail
  refine (drawRoofs_any _ HN.out hn).mono ?_
  rintro e w1 ⟨u, ps, rfl, hps, o1, g1⟩
  have HN1 := hid (bytesN_kept' HN.out g1 (by intro j e; cases e))
  have L1 := hid o1.pairs
  have HPS := hid hps
  have G1 := hid g1
  obtain ⟨au, cu, rfl⟩ : ∃ a c, u = .slice a ps.length c := by obtain ⟨_, a, c, e, _⟩ := o1.pairs; exact ⟨a, c, e⟩
  clear o1 g1 hps HN
  go_wp2_with fail
  refine (drawRoof_any _ HN1.out hn).mono ?_
  rintro e w2 ⟨A, P, rfl, hs, g2⟩
  have HN2 := hid (bytesN_kept' HN1.out (gr_alloc g2 (.cells #[.int .i64 A, .int .i64 P] 27)) (by intro j e; cases e))
  have L2 := hid (L1.out.on (gr_alloc g2 (.cells #[.int .i64 A, .int .i64 P] 27)))
  have G2 := hid (gr_alloc (gr_then G1.out g2) (.cells #[.int .i64 A, .int .i64 P] 27))
  have k0 : (w2.alloc (.cells #[.int .i64 A, .int .i64 P] 27)).cell? ⟨w2.heap.size, 0, none⟩ = some (.int .i64 A) := by simp
  have k1 : (w2.alloc (.cells #[.int .i64 A, .int .i64 P] 27)).cell? ⟨w2.heap.size, 1, none⟩ = some (.int .i64 P) := by simp
  have HK2 := hid (And.intro k0 k1)
  have HS := hid hs
  clear k0 k1 g2 HN1 L1 G1 hs
  go_wp2_with fail
  refine (at_any _ _ HN2.out (by omega) (by omega)).mono ?_
  rintro e w' ⟨x, x0, x1, rfl, rfl⟩
  obtain ⟨NN, XX, MM, ND, C1, C2, bv, bt, L⟩ := roofs_all HPS.out HS.out ⟨x0, x1⟩
  have HL := hid L
  clear L
  go_wp2_with fail
  refine (catchAll_any _ _ L2.out).mono ?_
  rw [HL.out.eN]
  rintro e w3 ⟨rfl, g3⟩
  have HN3 := hid (bytesN_kept' HN2.out g3 (by intro j e; cases e))
  have L3 := hid (L2.out.on g3)
  have G3 := hid (gr_then G2.out g3)
  have k0 := cell_on g3 HK2.out.1
  have k1 := cell_on g3 HK2.out.2
  have HK3 := hid (And.intro k0 k1)
  clear g3 HN2 L2 G2 HK2
  go_wp2_with fail
  refine (catch_any _ _ _ _).mono ?_
  rw [HL.out.eX]
  rintro e w4 ⟨rfl, g4⟩
  have HN4 := hid (bytesN_kept' HN3.out g4 (by intro j e; cases e))
  have L4 := hid (L3.out.on g4)
  have G4 := hid (gr_then G3.out g4)
  have HK4 := hid (And.intro (cell_on g4 HK3.out.1) (cell_on g4 HK3.out.2))
  clear g4 HN3 L3 G3 HK3 k0 k1
  have HON : Hid (∀ W : World, Gr w4 W none → (W.cell? ⟨w2.heap.size, 0, none⟩ = some (.int .i64 A) ∧ W.cell? ⟨w2.heap.size, 1, none⟩ = some (.int .i64 P) ∧ Gr w4 W none)) := fun W hg => ⟨cell_on hg HK4.out.1, cell_on hg HK4.out.2, hg⟩
  have hlp : ps.length ≤ 4 := HPS.out.1
  go_upto_region 8 with fail
  go_cut [8] (fun m wx => m = .int .i64 MM ∧ Gr w4 wx none)
  case first =>
    refine wp_region_noPanic ?_
    refine wp_region_held_drew (S := fun w' => w'.cell? ⟨w2.heap.size, 0, none⟩ = some (.int .i64 A) ∧ w'.cell? ⟨w2.heap.size, 1, none⟩ = some (.int .i64 P) ∧ Gr w4 w' none) (by kernel_rfl) (HON.out _ (gr_drew (gr_refl _ _))) (fun hHeld => ?_)
    (refine wpAnyH_take (i := 1) (v := ?_) rfl (by kernel_rfl) (by kernel_rfl) (by kernel_rfl) (fun _ _ _ h => h) (Or.inl ⟨by rfl, ?_⟩) (by assumption) ?_; rotate_left; · (intro w hSw; (try dsimp only at hSw); go_simp <;> with_reducible rfl); try simp only [Act.put, List.setIfInBounds_toArray, List.set_cons_zero, List.set_cons_succ])
    (refine wpAnyH_take (i := 3) (v := ?_) rfl (by kernel_rfl) (by kernel_rfl) (by kernel_rfl) (fun _ _ _ h => h) (Or.inl ⟨by rfl, ?_⟩) (by assumption) ?_; rotate_left; · (intro w hSw; (try dsimp only at hSw); go_simp <;> with_reducible rfl); try simp only [Act.put, List.setIfInBounds_toArray, List.set_cons_zero, List.set_cons_succ])
    (refine wpAnyH_take (i := 6) (v := ?_) rfl (by kernel_rfl) (by kernel_rfl) (by kernel_rfl) (fun _ _ _ h => h) (Or.inl ⟨by rfl, ?_⟩) (by assumption) ?_; rotate_left; · (intro w hSw; (try dsimp only at hSw); go_simp <;> with_reducible rfl); try simp only [Act.put, List.setIfInBounds_toArray, List.set_cons_zero, List.set_cons_succ])
    refine wpAnyH_ready (rs := [0, 4]) (by kernel_rfl) (by simp) ?_
    refine AllReadyH.cons rfl (fun K hK => ?_) (AllReadyH.cons rfl (fun K hK => ?_) AllReadyH.nil)
    · go_simp
      refine hK.out _ _ (HON.out _ (gr_drew (gr_alloc (gr_refl _ _) _))) (fun hHeld => ?_)
      clear hK K
      try simp only [Act.put, List.setIfInBounds_toArray, List.set_cons_zero, List.set_cons_succ]
      refine wpAnyH_ready (rs := [2, 4]) (by kernel_rfl) (by simp) ?_
      refine AllReadyH.cons rfl (fun K hK => ?_) (AllReadyH.cons rfl (fun K hK => ?_) AllReadyH.nil)
      · refine step_append_srcC _ (by rfl) _ _ _ (by rfl) w4.heap.size 27 i0 (.agg #[.int .i64 0, .int .i64 0]) 2 16 Try.underlying24 hi hz0 hz1 hz2 (by rfl) (by decide) _ 0 [] (by rfl) (e_last w4 _ 2 w4.heap.size _ rfl (Nat.le_refl _)).drew _ ps.length (pcells ps) (by rfl) (L4.out.on (by repeat (first | (with_reducible exact gr_refl _ _) | (with_reducible assumption) | (with_reducible refine gr_drew ?_) | (with_reducible refine gr_alloc ?_ _)))).src (by unfold maxLen; omega) (by omega) (by simp <;> omega) ?_
        intro v5 w5 hown5 hgrow5
        have g5 : Gr w4 w5 none := gr_trans (by repeat (first | (with_reducible exact gr_refl _ _) | (with_reducible assumption) | (with_reducible refine gr_drew ?_) | (with_reducible refine gr_alloc ?_ _))) hgrow5 (fun j e => .inr (by simp [Value.ownBlock] at e; omega))
        refine hK.out _ _ (HON.out _ g5) (fun hHeld => ?_)
        clear hK K
        try simp only [Act.put, List.setIfInBounds_toArray, List.set_cons_zero, List.set_cons_succ]
        refine wpAnyH_ready (rs := [4]) (by kernel_rfl) (by simp) ?_
        refine AllReadyH.cons rfl (fun K hK => ?_) AllReadyH.nil
        go_simp
        refine hK.out _ _ (HON.out _ (gr_alloc g5 _)) (fun hHeld => ?_)
        clear hK K
        try simp only [Act.put, List.setIfInBounds_toArray, List.set_cons_zero, List.set_cons_succ]
        refine wpAnyH_ready (rs := [5]) (by kernel_rfl) (by simp) ?_
        refine AllReadyH.cons rfl (fun K hK => ?_) AllReadyH.nil
        refine step_append_srcC _ (by rfl) _ _ _ (by rfl) w4.heap.size 27 i0 (.agg #[.int .i64 0, .int .i64 0]) 2 16 Try.underlying24 hi hz0 hz1 hz2 (by rfl) (by decide) v5 (0 + ps.length) _ (by rfl) (hown5.alloc _) _ 1 [.int .i64 A, .int .i64 P] (by rfl) (src_pair (by simp) (by simp)) (by unfold maxLen; omega) (by omega) (by have := gr_le g5; simp <;> omega) ?_
        intro v6 w6 hown6 hgrow6
        have g6 : Gr w4 w6 none := gr_trans (gr_alloc g5 _) hgrow6 (fun j e => .inr (hown5.lt j e).1)
        have P6 := own_pairs (q := (A, P)) hown6 (i64_rf HPS.out.2) (by have := HS.out; unfold SmallRf at this; unfold I64; simp only [] at *; omega)
        refine hK.out _ _ (HON.out _ g6) (fun hHeld => ?_)
        clear hK K
        try simp only [Act.put, List.setIfInBounds_toArray, List.set_cons_zero, List.set_cons_succ]
        refine wpAnyH_ready (rs := [7]) (by kernel_rfl) (by simp) ?_
        refine AllReadyH.cons rfl (fun K hK => ?_) AllReadyH.nil
        go_simp
        refine (catchAll_any x _ P6).mono ?_; rw [HL.out.eM]; rintro e w7 ⟨rfl, g7⟩
        go_wp2_with fail
        refine hK.out _ _ (HON.out _ (gr_then g6 g7)) (fun hHeld => ?_)
        clear hK K
        try simp only [Act.put, List.setIfInBounds_toArray, List.set_cons_zero, List.set_cons_succ]
        (refine wpAnyH_take (i := 8) (v := ?_) rfl (by kernel_rfl) (by kernel_rfl) (by kernel_rfl) (fun _ _ _ h => h) (Or.inl ⟨by rfl, ?_⟩) (by assumption) ?_; rotate_left; · (intro w hSw; (try dsimp only at hSw); go_simp <;> with_reducible rfl); try simp only [Act.put, List.setIfInBounds_toArray, List.set_cons_zero, List.set_cons_succ])
        refine wpAnyH_done (by kernel_rfl) ?_ _
        refine NoPanic.normal ?_
        go_wp2_with fail
        go_meet
        exact ⟨rfl, gr_then g6 g7⟩
      · go_simp
        refine hK.out _ _ (HON.out _ (gr_drew (gr_alloc (gr_alloc (gr_refl _ _) _) _))) (fun hHeld => ?_)
        clear hK K
        try simp only [Act.put, List.setIfInBounds_toArray, List.set_cons_zero, List.set_cons_succ]
        refine wpAnyH_ready (rs := [2]) (by kernel_rfl) (by simp) ?_
        refine AllReadyH.cons rfl (fun K hK => ?_) AllReadyH.nil
        refine step_append_srcC _ (by rfl) _ _ _ (by rfl) w4.heap.size 27 i0 (.agg #[.int .i64 0, .int .i64 0]) 2 16 Try.underlying24 hi hz0 hz1 hz2 (by rfl) (by decide) _ 0 [] (by rfl) ((e_last w4 _ 2 w4.heap.size _ rfl (Nat.le_refl _)).alloc _).drew _ ps.length (pcells ps) (by rfl) (L4.out.on (by repeat (first | (with_reducible exact gr_refl _ _) | (with_reducible assumption) | (with_reducible refine gr_drew ?_) | (with_reducible refine gr_alloc ?_ _)))).src (by unfold maxLen; omega) (by omega) (by simp <;> omega) ?_
        intro v5 w5 hown5 hgrow5
        have g5 : Gr w4 w5 none := gr_trans (by repeat (first | (with_reducible exact gr_refl _ _) | (with_reducible assumption) | (with_reducible refine gr_drew ?_) | (with_reducible refine gr_alloc ?_ _))) hgrow5 (fun j e => .inr (by simp [Value.ownBlock] at e; omega))
        refine hK.out _ _ (HON.out _ g5) (fun hHeld => ?_)
        clear hK K
        try simp only [Act.put, List.setIfInBounds_toArray, List.set_cons_zero, List.set_cons_succ]
        refine wpAnyH_ready (rs := [5]) (by kernel_rfl) (by simp) ?_
        refine AllReadyH.cons rfl (fun K hK => ?_) AllReadyH.nil
        refine step_append_srcC _ (by rfl) _ _ _ (by rfl) w4.heap.size 27 i0 (.agg #[.int .i64 0, .int .i64 0]) 2 16 Try.underlying24 hi hz0 hz1 hz2 (by rfl) (by decide) v5 (0 + ps.length) _ (by rfl) hown5 _ 1 [.int .i64 A, .int .i64 P] (by rfl) (src_pair (B := w4.heap.size + 1) (World.grownBy.cell hgrow5 (by simp) (by simp [Value.ownBlock])) (World.grownBy.cell hgrow5 (by simp) (by simp [Value.ownBlock]))) (by unfold maxLen; omega) (by omega) (by have := gr_le g5; simp <;> omega) ?_
        intro v6 w6 hown6 hgrow6
        have g6 : Gr w4 w6 none := gr_trans g5 hgrow6 (fun j e => .inr (hown5.lt j e).1)
        have P6 := own_pairs (q := (A, P)) hown6 (i64_rf HPS.out.2) (by have := HS.out; unfold SmallRf at this; unfold I64; simp only [] at *; omega)
        refine hK.out _ _ (HON.out _ g6) (fun hHeld => ?_)
        clear hK K
        try simp only [Act.put, List.setIfInBounds_toArray, List.set_cons_zero, List.set_cons_succ]
        refine wpAnyH_ready (rs := [7]) (by kernel_rfl) (by simp) ?_
        refine AllReadyH.cons rfl (fun K hK => ?_) AllReadyH.nil
        go_simp
        refine (catchAll_any x _ P6).mono ?_; rw [HL.out.eM]; rintro e w7 ⟨rfl, g7⟩
        go_wp2_with fail
        refine hK.out _ _ (HON.out _ (gr_then g6 g7)) (fun hHeld => ?_)
        clear hK K
        try simp only [Act.put, List.setIfInBounds_toArray, List.set_cons_zero, List.set_cons_succ]
        (refine wpAnyH_take (i := 8) (v := ?_) rfl (by kernel_rfl) (by kernel_rfl) (by kernel_rfl) (fun _ _ _ h => h) (Or.inl ⟨by rfl, ?_⟩) (by assumption) ?_; rotate_left; · (intro w hSw; (try dsimp only at hSw); go_simp <;> with_reducible rfl); try simp only [Act.put, List.setIfInBounds_toArray, List.set_cons_zero, List.set_cons_succ])
        refine wpAnyH_done (by kernel_rfl) ?_ _
        refine NoPanic.normal ?_
        go_wp2_with fail
        go_meet
        exact ⟨rfl, gr_then g6 g7⟩
    · go_simp
      refine hK.out _ _ (HON.out _ (gr_drew (gr_alloc (gr_refl _ _) _))) (fun hHeld => ?_)
      clear hK K
      try simp only [Act.put, List.setIfInBounds_toArray, List.set_cons_zero, List.set_cons_succ]
      refine wpAnyH_ready (rs := [0]) (by kernel_rfl) (by simp) ?_
      refine AllReadyH.cons rfl (fun K hK => ?_) AllReadyH.nil
      go_simp
      refine hK.out _ _ (HON.out _ (gr_drew (gr_alloc (gr_alloc (gr_refl _ _) _) _))) (fun hHeld => ?_)
      clear hK K
      try simp only [Act.put, List.setIfInBounds_toArray, List.set_cons_zero, List.set_cons_succ]
      refine wpAnyH_ready (rs := [2]) (by kernel_rfl) (by simp) ?_
      refine AllReadyH.cons rfl (fun K hK => ?_) AllReadyH.nil
      refine step_append_srcC _ (by rfl) _ _ _ (by rfl) w4.heap.size 27 i0 (.agg #[.int .i64 0, .int .i64 0]) 2 16 Try.underlying24 hi hz0 hz1 hz2 (by rfl) (by decide) _ 0 [] (by rfl) (e_last (w4.alloc (.cells #[.int .i64 A, .int .i64 P] 27)) _ 2 w4.heap.size (w4.heap.size + 1) (by simp) (by omega)).drew _ ps.length (pcells ps) (by rfl) (L4.out.on (by repeat (first | (with_reducible exact gr_refl _ _) | (with_reducible assumption) | (with_reducible refine gr_drew ?_) | (with_reducible refine gr_alloc ?_ _)))).src (by unfold maxLen; omega) (by omega) (by simp <;> omega) ?_
      intro v5 w5 hown5 hgrow5
      have g5 : Gr w4 w5 none := gr_trans (by repeat (first | (with_reducible exact gr_refl _ _) | (with_reducible assumption) | (with_reducible refine gr_drew ?_) | (with_reducible refine gr_alloc ?_ _))) hgrow5 (fun j e => .inr (by simp [Value.ownBlock] at e; omega))
      refine hK.out _ _ (HON.out _ g5) (fun hHeld => ?_)
      clear hK K
      try simp only [Act.put, List.setIfInBounds_toArray, List.set_cons_zero, List.set_cons_succ]
      refine wpAnyH_ready (rs := [5]) (by kernel_rfl) (by simp) ?_
      refine AllReadyH.cons rfl (fun K hK => ?_) AllReadyH.nil
      refine step_append_srcC _ (by rfl) _ _ _ (by rfl) w4.heap.size 27 i0 (.agg #[.int .i64 0, .int .i64 0]) 2 16 Try.underlying24 hi hz0 hz1 hz2 (by rfl) (by decide) v5 (0 + ps.length) _ (by rfl) hown5 _ 1 [.int .i64 A, .int .i64 P] (by rfl) (src_pair (B := w4.heap.size) (World.grownBy.cell hgrow5 (by simp) (by simp [Value.ownBlock])) (World.grownBy.cell hgrow5 (by simp) (by simp [Value.ownBlock]))) (by unfold maxLen; omega) (by omega) (by have := gr_le g5; simp <;> omega) ?_
      intro v6 w6 hown6 hgrow6
      have g6 : Gr w4 w6 none := gr_trans g5 hgrow6 (fun j e => .inr (hown5.lt j e).1)
      have P6 := own_pairs (q := (A, P)) hown6 (i64_rf HPS.out.2) (by have := HS.out; unfold SmallRf at this; unfold I64; simp only [] at *; omega)
      refine hK.out _ _ (HON.out _ g6) (fun hHeld => ?_)
      clear hK K
      try simp only [Act.put, List.setIfInBounds_toArray, List.set_cons_zero, List.set_cons_succ]
      refine wpAnyH_ready (rs := [7]) (by kernel_rfl) (by simp) ?_
      refine AllReadyH.cons rfl (fun K hK => ?_) AllReadyH.nil
      go_simp
      refine (catchAll_any x _ P6).mono ?_; rw [HL.out.eM]; rintro e w7 ⟨rfl, g7⟩
      go_wp2_with fail
      refine hK.out _ _ (HON.out _ (gr_then g6 g7)) (fun hHeld => ?_)
      clear hK K
      try simp only [Act.put, List.setIfInBounds_toArray, List.set_cons_zero, List.set_cons_succ]
      (refine wpAnyH_take (i := 8) (v := ?_) rfl (by kernel_rfl) (by kernel_rfl) (by kernel_rfl) (fun _ _ _ h => h) (Or.inl ⟨by rfl, ?_⟩) (by assumption) ?_; rotate_left; · (intro w hSw; (try dsimp only at hSw); go_simp <;> with_reducible rfl); try simp only [Act.put, List.setIfInBounds_toArray, List.set_cons_zero, List.set_cons_succ])
      refine wpAnyH_done (by kernel_rfl) ?_ _
      refine NoPanic.normal ?_
      go_wp2_with fail
      go_meet
      exact ⟨rfl, gr_then g6 g7⟩
  case rest =>
    obtain ⟨rfl, gc⟩ := hcut
    have HN5 := hid (bytesN_kept' HN4.out gc (by intro j e; cases e))
    have G5 := hid (gr_then G4.out gc)
    have HK5 := hid (And.intro (HON.out _ gc).1 (HON.out _ gc).2.1)
    clear gc HN4 G4 HK4 HON L4 hlp hi hz0 hz1 hz2
    go_wp2_with fail
    refine (drawRain_any _ HN5.out hn).mono ?_
    rintro e w6 ⟨d, xs, rfl, hsm, o6, g6⟩
    have R6 := hid o6.ints
    obtain ⟨ad, cd, rfl⟩ : ∃ a c, d = .slice a xs.length c := by obtain ⟨_, a, c, e, _⟩ := o6.ints; exact ⟨a, c, e⟩
    have G6 := hid (gr_then G5.out g6)
    have k0 := cell_on g6 HK5.out.1
    have k1 := cell_on g6 HK5.out.2
    have HK6 := hid (And.intro k0 k1)
    have HSM := hid hsm
    clear o6 g6 hsm HN5 G5 HK5
    go_wp2_with fail
    refine (catchDays_any _ _ _ R6.out).mono ?_
    rintro e w7 ⟨q, rfl, o7, g7⟩
    have hcl : caughtL A P xs = caught A P xs xs.length := by rw [caughtL, small_roofB HS.out, rain_small HSM.out]; rfl
    rw [hcl] at o7
    have hli : Hid (∀ k, k < xs.length → gi (caught A P xs xs.length) k = catchV A P (gi xs k)) := fun k hk => gi_caught hk
    have hlc : (caught A P xs xs.length).length = xs.length := caught_length _ _ _ _
    have D7 := hid o7.ints
    obtain ⟨aq, cq, rfl⟩ : ∃ a c, q = .slice a xs.length c := by obtain ⟨_, a, c, e, _⟩ := o7.ints; exact ⟨a, c, by rw [hlc] at e; exact e⟩
    have R7 := hid (R6.out.on g7)
    have G7 := hid (gr_then G6.out g7)
    have HK7 := hid (And.intro (cell_on g7 HK6.out.1) (cell_on g7 HK6.out.2))
    have hxl : (xs.length : Int) ≤ 20 := by have := HSM.out.2.1; omega
    have HLC := hid hlc
    clear o7 g7 k0 k1 HK6 G6 R6 hcl hlc
    obtain ⟨k0, k1⟩ := HK7.out
    go_wp2_with fail
    go_loopw [11] (fun i wr => ∃ k : Nat, k ≤ xs.length ∧ i = .int .i64 k ∧ Gr w7 wr none) (fun i _ => xs.length - (intOf i).toNat)
    case atStart => exact ⟨0, Nat.zero_le _, rfl, gr_refl _ _⟩
    case round =>
      obtain ⟨k, hk, rfl, hg⟩ := hrel
      have HG := hid hg
      by_cases hlt : k < xs.length
      · obtain ⟨-, a1, c1, e1, hc1, -, hat1⟩ := R7.out
        obtain ⟨-, a2, c2, e2, hc2, -, hat2⟩ := D7.out
        cases e1
        obtain ⟨b, off, rfl, hx⟩ : ∃ b off, ad = some ⟨b, off, none⟩ ∧ IntsAt w7 b off xs := by
          rcases hat1 with h0 | h0
          · subst h0; simp at hlt
          · exact h0
        obtain ⟨b', off', rfl, hy⟩ : ∃ b off, aq = some ⟨b, off, none⟩ ∧ IntsAt w7 b off (caught A P xs xs.length) := by
          rcases hat2 with h0 | h0
          · have := HLC.out; rw [h0] at this; simp at this; omega
          · simp only [Value.slice.injEq] at e2
            obtain ⟨b, off, e, h⟩ := h0
            exact ⟨b, off, e2.1.trans e, h⟩
        have m1 := hx.kept hg (by simp) k hlt
        have m2 := hy.kept hg (by simp) k (by rw [HLC.out]; exact hlt)
        rw [hli.out k hlt] at m2
        have q0 := cell_on hg k0
        have q1 := cell_on hg k1
        generalize gi xs k = X at *
        obtain ⟨Y, hY⟩ : ∃ Y, Y = catchV A P X := ⟨_, rfl⟩
        rw [← hY] at m2
        have HCA : Hid (∀ W, Calls Try.prog 9 #[.agg #[.int .i64 A, .int .i64 P], .int .i64 X] W fun e w' => e = .returned (.int .i64 Y) ∧ Gr W w' none) := fun W => by rw [hY]; exact catch_any A P X W
        have m1s := fun s : Gw wr => cell_on s.h m1
        have m2s := fun s : Gw wr => cell_on s.h m2
        have q0s := fun s : Gw wr => cell_on s.h q0
        have q1s := fun s : Gw wr => cell_on s.h q1
        have h1 : (k : Int) < (xs.length : Int) := by omega
        have h3 : (0 : Int) ≤ (k : Int) := by omega
        clear hx hy hat1 hat2 m1 m2 q0 q1 hg k0 k1 e2 hY hc2
        go_wp2_with fail
        refine region_gw (w0 := wr) (by kernel_rfl) (by kernel_rfl) (by kernel_rfl) ?_
        repeat (first | go_big_quiet_skip | (go_big_quiet_want; go_big_quiet_op; first | go_big_quiet_on | (apply Exists.intro; refine ⟨fun s => ?_, ?_⟩; (focus (first | (with_reducible exact gw_call s (HCA.out s.w)))); go_big_quiet_on)))
        refine wpQuiet_nil ?_
        rintro _ ⟨⟨wq, gq⟩, rfl⟩
        try dsimp only
        go_wp2
        go_roundw
        case rel => exact ⟨k + 1, by omega, by go_num, gr_then HG.out gq⟩
        case measure => simp [intOf]; omega
      · have hkl : k = xs.length := by omega
        subst hkl
        have q0 := cell_on hg k0
        have q1 := cell_on hg k1
        clear k0 k1
        go_wp2_with fail
        refine (areaFor_any _ _ _ _).mono ?_
        rw [HL.out.eD]
        rintro e w8 ⟨rfl, g8⟩
        have u0 := cell_on g8 q0
        have u1 := cell_on g8 q1
        have G8 := hid (gr_then (gr_then G7.out hg) g8)
        obtain ⟨hs1, hs2⟩ : (1 ≤ A ∧ A ≤ 200) ∧ 0 ≤ P ∧ P ≤ 100 := HS.out
        obtain ⟨⟨n0, n1⟩, ⟨xx0, xx1⟩, ⟨dd0, dd1⟩, cc1, cc2, ⟨tt0, tt1⟩⟩ := And.intro HL.out.n0 (And.intro HL.out.x0 (And.intro HL.out.d0 (And.intro HL.out.c1 (And.intro HL.out.c2 HL.out.t0))))
        have hm : (MM == NN + XX) = true := by rw [HL.out.m0]; simp
        have hbt : (bv == -bt) = true := by rw [HL.out.b0]; simp
        have H1 : Hid (∀ W, Calls Try.prog 9 #[.agg #[.int .i64 ND, .int .i64 P], .int .i64 x] W fun e w' => e = .returned (.int .i64 C1) ∧ Gr W w' none) := fun W => by have := catch_any ND P x W; rwa [HL.out.eC1] at this
        have H2 : Hid (∀ W, Calls Try.prog 9 #[.agg #[.int .i64 (A + 1), .int .i64 P], .int .i64 x] W fun e w' => e = .returned (.int .i64 C2) ∧ Gr W w' none) := fun W => by have := catch_any (A + 1) P x W; rwa [HL.out.eC2] at this
        have H3 : Hid (∀ W, Calls Try.prog 13 #[.agg #[.int .i64 (A + 1), .int .i64 P], .agg #[.int .i64 A, .int .i64 P]] W fun e w' => e = .returned (.int .i64 bv) ∧ Gr W w' none) := fun W => by have := betterRoof_any (A + 1) P A P W; rwa [HL.out.eB] at this
        have H4 : Hid (∀ W, Calls Try.prog 14 #[.bool (decide (0 < P))] W fun e w' => e = .returned (.int .i64 bt) ∧ Gr W w' none) := fun W => by
          have e := HL.out.eT
          by_cases hp : 0 < P
          · rw [if_pos hp] at e; rw [decide_eq_true hp, ← e]; exact (btoi_true W).mono fun _ _ ⟨h1, h2⟩ => ⟨h1, h2 ▸ gr_refl _ _⟩
          · rw [if_neg hp] at e; rw [decide_eq_false hp, ← e]; exact (btoi_false W).mono fun _ _ ⟨h1, h2⟩ => ⟨h1, h2 ▸ gr_refl _ _⟩
        have H5 : Hid (∀ W, Calls Try.prog 9 #[.agg #[.int .i64 A, .int .i64 P], .int .i64 0] W fun e w' => e = .returned (.int .i64 0) ∧ Gr W w' none) := fun W => by
          have := catch_any A P 0 W
          rwa [show catchV A P 0 = 0 from by rw [catchV, small_roofB HS.out]; simp [inB]] at this
        have H6 : Hid (∀ W, Calls Try.prog 15 #[.agg #[.int .i64 A, .int .i64 P]] W fun e w' => e = .returned (.bool true) ∧ Gr W w' none) := fun W => by have := roofOk_any A P W; rwa [small_roofB HS.out] at this
        have H7 : Hid (∀ W, Calls Try.prog 9 #[.agg #[.int .i64 100, .int .i64 80], .int .i64 10] W fun e w' => e = .returned (.int .i64 800) ∧ Gr W w' none) := fun W => by
          have := catch_any 100 80 10 W
          rwa [show catchV 100 80 10 = 800 from by decide] at this
        clear q0 q1 g8 hg HG
        have v0 : ((w8.alloc (.cells #[.int .i64 (A + 1), .int .i64 P] 27))).cell? ⟨w2.heap.size, 0, none⟩ = some (.int .i64 A) := cell_on (gr_alloc (gr_refl _ _) _) u0
        have v1 : ((w8.alloc (.cells #[.int .i64 (A + 1), .int .i64 P] 27))).cell? ⟨w2.heap.size, 1, none⟩ = some (.int .i64 P) := cell_on (gr_alloc (gr_refl _ _) _) u1
        have b0 : ((w8.alloc (.cells #[.int .i64 (A + 1), .int .i64 P] 27))).cell? ⟨w8.heap.size, 0, none⟩ = some (.int .i64 (A + 1)) := by simp
        have b1 : ((w8.alloc (.cells #[.int .i64 (A + 1), .int .i64 P] 27))).cell? ⟨w8.heap.size, 1, none⟩ = some (.int .i64 P) := by simp
        have v0s := fun s : Gw (w8.alloc (.cells #[.int .i64 (A + 1), .int .i64 P] 27)) => cell_on s.h v0
        have v1s := fun s : Gw (w8.alloc (.cells #[.int .i64 (A + 1), .int .i64 P] 27)) => cell_on s.h v1
        have b0s := fun s : Gw (w8.alloc (.cells #[.int .i64 (A + 1), .int .i64 P] 27)) => cell_on s.h b0
        have b1s := fun s : Gw (w8.alloc (.cells #[.int .i64 (A + 1), .int .i64 P] 27)) => cell_on s.h b1
        clear v0 v1 b0 b1
        go_wp2_with fail
        try simp only [List.append_eq, List.cons_append, List.nil_append]
        refine region_gw (w0 := (w8.alloc (.cells #[.int .i64 (A + 1), .int .i64 P] 27))) (by kernel_rfl) (by kernel_rfl) (by kernel_rfl) ?_
        repeat (first | go_big_quiet_skip | (go_big_quiet_want; go_big_quiet_op; first | go_big_quiet_on | (apply Exists.intro; refine ⟨fun s => ?_, ?_⟩; (focus (first | (with_reducible exact gw_call s (H1.out s.w)) | (with_reducible exact gw_call s (H2.out s.w)) | (with_reducible exact gw_call s (H3.out s.w)) | (with_reducible exact gw_call s (H4.out s.w)) | (with_reducible exact gw_call s (H5.out s.w)) | (with_reducible exact gw_call s (H6.out s.w)) | (with_reducible exact gw_call s (H7.out s.w)))); go_big_quiet_on)))
        refine wpQuiet_nil ?_
        rintro _ ⟨⟨wq, gq⟩, rfl⟩
        try dsimp only
        go_wp2
        go_ret
        exact ⟨rfl, gr_then (gr_alloc G8.out _) gq⟩
end Go.Proofs.Ytjbihhchagcppaa
