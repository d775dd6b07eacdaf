/- The drawing helpers of the reference: a cursor over bytes hands out numbers in range; nothing more is asked of them. -/
import Derived.Test.YtbmgmolnknnaiaaRows
import Derived.Test.YtbmgmolnknnaiaaBase
import Derived.Test.YtbmgmolnknnaiaaBytes
namespace Go.Proofs.Ytbmgmolnknnaiaa
open Go.RowKit

/-! ### Bytes that are only read; the cursor -/
/-- Block C is a cursor. T: the number of its type. -/
def Cur (T : TypeId) (w : World) (C : Nat) : Prop :=
  ∃ a n cap i h, w.heap[C]? = some (.cells #[.slice a n cap, .int .i64 i, .int .i64 h] T (0, 0)) ∧ 0 ≤ i ∧ i ≤ (n : Int) ∧ BytesN w (.slice a n cap) n ∧ n ≤ 1048576 ∧ ∀ b, (Value.slice a n cap).ownBlock = some b → 0 < n → b < C
theorem Cur.lt {T : TypeId} {w : World} {C : Nat} (h : Cur T w C) : C < w.heap.size := by
  obtain ⟨a, n, cap, i, hh, h1, _⟩ := h
  exact lt_of_block h1
theorem bytesN_kept' {w w' : World} {r : Option Nat} {a : Option Addr} {cap n : Nat} (h : BytesN w (.slice a n cap) n) (hg : Gr w w' r) (hr : ∀ j, r = some j → (Value.slice a n cap).ownBlock = some j → 0 < n → False) : BytesN w' (.slice a n cap) n := by
  obtain ⟨a', cap', e, h2, h3, h4⟩ := h
  simp only [Value.slice.injEq, true_and] at e
  obtain ⟨rfl, rfl⟩ := e
  refine ⟨a, cap, rfl, h2, h3, ?_⟩
  rcases h4 with h4 | ⟨b, off, rfl, h4⟩
  · exact .inl h4
  · refine .inr ⟨b, off, rfl, fun i hi => ?_⟩
    obtain ⟨x, h5, h6, h7⟩ := h4 i hi
    have hb : b < w.heap.size := World.block_lt_of_cell? w _ h7
    exact ⟨x, h5, h6, by rw [gr_cellr hg hb (fun e => hr b e rfl (by omega))]; exact h7⟩
/-- Writes to a row from B on, above the cursor, leave the cursor. -/
theorem Cur.kept {T : TypeId} {w w' : World} {C : Nat} {r : Option Nat} (h : Cur T w C) (hg : Gr w w' r) (hr : ∀ j, r = some j → C < j) : Cur T w' C := by
  have hlt := h.lt
  obtain ⟨a, n, cap, i, hh, h1, h2, h3, h4, h5, h6⟩ := h
  refine ⟨a, n, cap, i, hh, ?_, h2, h3, bytesN_kept' h4 hg (fun j e e' hn => ?_), h5, h6⟩
  · rw [hg.block C hlt (fun e => by have := hr C e.symm; omega)]; exact h1
  · have := hr j e
    have := h6 j e' hn
    omega
theorem Cur.on {T : TypeId} {w w' : World} {C : Nat} (h : Cur T w C) (hg : Gr w w' none) : Cur T w' C := h.kept hg (by intro j e; cases e)
/-- What a drawing function leaves that hands back a number in range. -/
def RetN (T : TypeId) (w : World) (C : Nat) (lo hi : Int) (e : Ending) (w' : World) : Prop := ∃ x : Int, lo ≤ x ∧ x ≤ hi ∧ e = .returned (.int .i64 x) ∧ Cur T w' C ∧ Gr w w' (some C)
def RetB (T : TypeId) (w : World) (C : Nat) (e : Ending) (w' : World) : Prop := ∃ x : Bool, e = .returned (.bool x) ∧ Cur T w' C ∧ Gr w w' (some C)
def RetC (T : TypeId) (w : World) (e : Ending) (w' : World) : Prop := ∃ C, w.heap.size ≤ C ∧ e = .returned (.pointer (some ⟨C, 0, none⟩)) ∧ Cur T w' C ∧ Gr w w' none
theorem and_255 (x : Int) : 0 ≤ bits .and .i64 x 255 ∧ bits .and .i64 x 255 ≤ 255 := by
  have h : (BitVec.ofInt 64 x &&& BitVec.ofInt 64 255).toNat ≤ 255 := by
    rw [BitVec.toNat_and]
    exact Nat.le_trans Nat.and_le_right (by decide)
  show 0 ≤ IntKind.i64.wrap ((BitVec.ofInt 64 x &&& BitVec.ofInt 64 255).toNat : Int) ∧ _
  rw [IntWalk.i64_in _ (by omega)]
  constructor
  · omega
  · show IntKind.i64.wrap ((BitVec.ofInt 64 x &&& BitVec.ofInt 64 255).toNat : Int) ≤ 255
    rw [IntWalk.i64_in _ (by omega)]; omega
theorem l01Byte_any {C : Nat} (w : World) (h : Cur 63 w C) : Calls Try.prog 40 #[.pointer (some ⟨C, 0, none⟩)] w (RetN 63 w C 0 255) := by
  obtain ⟨a, n, cap, i, hh, h1, h2, h3, h4, h5, h6⟩ := h
  have c0 := Go.Joins.cell_of_block h1 0
  have c1 := Go.Joins.cell_of_block h1 1
  have c2 := Go.Joins.cell_of_block h1 2
  have f0 := Go.Joins.unfrozen_of_block h1 0
  have f1 := Go.Joins.unfrozen_of_block h1 1
  have f2 := Go.Joins.unfrozen_of_block h1 2
  simp at c0 c1 c2
  go_enter Try.func40, Try.ntmps40
  go_wp2_with fail
  generalize wrap64 (wrap64 (hh * 6364136223846793005) + 1442695040888963407) = H2 at *
  have hb1 : (w.setCell ⟨C, 2, none⟩ (.int .i64 H2)).heap[C]? = some (.cells #[.slice a n cap, .int .i64 i, .int .i64 H2] 63 (0, 0)) := by
    have := Go.Joins.block_setCell h1 (i := 2) (.int .i64 H2); simpa using this
  have hg1 : Gr w (w.setCell ⟨C, 2, none⟩ (.int .i64 H2)) (some C) := gr_set (gr_refl _ _) (.inl rfl) _
  go_quiet (fail)
  have hx := and_255 (bits BinOp.xor IntKind.i64 (H2 / 8589934592) (H2 / 35184372088832))
  generalize bits BinOp.and IntKind.i64 (bits BinOp.xor IntKind.i64 (H2 / 8589934592) (H2 / 35184372088832)) 255 = X at *
  generalize hw1 : World.drewN _ _ = w1
  have hb2 : w1.heap[C]? = some (.cells #[.slice a n cap, .int .i64 i, .int .i64 H2] 63 (0, 0)) := by rw [← hw1]; exact hb1
  have hg2 : Gr w w1 (some C) := by rw [← hw1]; exact gr_drewN hg1 _
  have h4' := bytesN_kept' h4 hg2 (fun j e e' hn => by cases e; have := h6 C e' hn; omega)
  clear hw1 hb1 hg1 h4 h1 c0 c1 c2 f0 f1 f2
  have c0 := Go.Joins.cell_of_block hb2 0
  have c1 := Go.Joins.cell_of_block hb2 1
  simp at c0 c1
  go_wp2_with fail
  go_quiet (fail)
  by_cases hlt : i < (n : Int)
  · obtain ⟨k, rfl⟩ := Int.eq_ofNat_of_zero_le h2
    obtain ⟨a', cap', e, b1, b2, b3⟩ := h4'
    simp only [Value.slice.injEq, true_and] at e
    obtain ⟨rfl, rfl⟩ := e
    obtain ⟨b, off, rfl, hcs⟩ : ∃ b off, a = some ⟨b, off, none⟩ ∧ ∀ i, i < n → ∃ x : Int, 0 ≤ x ∧ x ≤ 255 ∧ w1.cell? ⟨b, off + i, none⟩ = some (.int .u8 x) := by
      rcases b3 with h0 | h0
      · omega
      · exact h0
    obtain ⟨y, y1, y2, hcy⟩ := hcs k (by omega)
    have HCS := hid hcs
    clear hcs b3
    unfold maxLen at b2
    go_wp2_with fail
    have q1 : IntKind.i64.wrap (X + y) = X + y := IntWalk.i64_in _ (by omega)
    go_quiet (fail)
    have hz := and_255 (X + y)
    generalize bits BinOp.and IntKind.i64 (X + y) 255 = Z at *
    have f1 := Go.Joins.unfrozen_of_block hb2 1
    clear q1
    go_wp2
    go_ret
    refine ⟨Z, hz.1, hz.2, rfl, ?_, ?_⟩
    · refine ⟨some ⟨b, off, none⟩, n, cap, k + 1, H2, ?_, by omega, by omega, ?_, h5, h6⟩
      · have hb3 : (w1.setCell ⟨C, 1, none⟩ (.int .i64 (k + 1))).heap[C]? = some (.cells #[.slice (some ⟨b, off, none⟩) n cap, .int .i64 (k + 1), .int .i64 H2] 63 (0, 0)) := by
          have := Go.Joins.block_setCell hb2 (i := 1) (.int .i64 (k + 1)); simpa using this
        exact hb3
      · exact bytesN_kept' ⟨_, _, rfl, b1, by unfold maxLen; omega, .inr ⟨b, off, rfl, HCS.out⟩⟩ (r := some C) (by
          repeat (first | (with_reducible exact gr_refl _ _) | (with_reducible refine gr_drewN ?_ _) | (with_reducible refine gr_set ?_ (.inl rfl) _))) (fun j e e' hn => by cases e; have := h6 C e' hn; omega)
    · refine gr_same hg2 ?_
      repeat (first | (with_reducible exact gr_refl _ _) | (with_reducible refine gr_drewN ?_ _) | (with_reducible refine gr_set ?_ (.inl rfl) _))
  · go_wp2
    go_ret
    exact ⟨X, hx.1, hx.2, rfl, ⟨a, n, cap, i, H2, hb2, h2, h3, bytesN_kept' (r := none) h4' (gr_drewN (gr_refl _ _) _) (by intro j e; cases e), h5, h6⟩, gr_same hg2 (gr_drewN (gr_refl _ _) _)⟩
set_option maxRecDepth 100000 in
theorem l01New_any {v : Value} {n : Nat} (w : World) (h : BytesN w v n) (hn : n ≤ 1048576) : Calls Try.prog 31 #[v] w (RetC 63 w) := by
  have H := hid h
  obtain ⟨a, cap, rfl, hcap, hmax, hat⟩ := h
  unfold maxLen at hmax
  go_enter Try.func31, Try.ntmps31
  go_wp2_with fail
  go_loop [3, 4] (fun s i => ∃ k : Nat, ∃ x : Int, k ≤ n ∧ i = .int .i64 k ∧ s = .int .i64 x) (fun _ i => n - (intOf i).toNat)
  case atStart => exact ⟨0, _, Nat.zero_le _, rfl, rfl⟩
  case round =>
    obtain ⟨k, x, hk, rfl, rfl⟩ := hrel
    by_cases hlt : k < n
    · obtain ⟨b, off, rfl, hcs⟩ : ∃ b off, a = some ⟨b, off, none⟩ ∧ ∀ i, i < n → ∃ x : Int, 0 ≤ x ∧ x ≤ 255 ∧ w.cell? ⟨b, off + i, none⟩ = some (.int .u8 x) := by
        rcases hat with h0 | h0
        · omega
        · exact h0
      obtain ⟨y, y1, y2, hcy⟩ := hcs k hlt
      have hbw : b < w.heap.size := World.block_lt_of_cell? w _ hcy
      clear hcs hat
      by_cases h4 : k < 4000
      · go_wp2
        go_round
        case rel => exact ⟨k + 1, _, by omega, by go_num, rfl⟩
        case measure => simp [intOf]; omega
      · go_wp2
        go_ret
        refine ⟨w.heap.size, Nat.le_refl _, rfl, ⟨some ⟨b, off, none⟩, n, cap, 0, _, heap_alloc_new _ _, by omega, by omega, H.out.on (gr_alloc (gr_refl _ _) _), hn, ?_⟩, (by repeat (first | (with_reducible exact gr_refl _ _) | (with_reducible assumption) | (with_reducible refine gr_drew ?_) | (with_reducible refine gr_drewN ?_ _) | (with_reducible refine gr_alloc ?_ _) | (with_reducible refine gr_set ?_ (.inr (by simp; done)) _) | (with_reducible refine gr_set ?_ (.inr (by simp; omega)) _) | (with_reducible refine gr_then ?_ (by with_reducible assumption))))⟩
        intro b' e _
        cases e
        exact hbw
    · go_wp2
      go_ret
      refine ⟨w.heap.size, Nat.le_refl _, rfl, ⟨a, n, cap, 0, _, heap_alloc_new _ _, by omega, by omega, H.out.on (gr_alloc (gr_refl _ _) _), hn, ?_⟩, (by repeat (first | (with_reducible exact gr_refl _ _) | (with_reducible assumption) | (with_reducible refine gr_drew ?_) | (with_reducible refine gr_drewN ?_ _) | (with_reducible refine gr_alloc ?_ _) | (with_reducible refine gr_set ?_ (.inr (by simp; done)) _) | (with_reducible refine gr_set ?_ (.inr (by simp; omega)) _) | (with_reducible refine gr_then ?_ (by with_reducible assumption))))⟩
      intro b' e h0
      rcases hat with h1 | ⟨b, off, rfl, hcs⟩
      · omega
      · obtain ⟨y, y1, y2, hcy⟩ := hcs 0 h0
        cases e
        exact World.block_lt_of_cell? w _ hcy
theorem l01Below_any {C : Nat} (n : Int) (w : World) (h : Cur 63 w C) (h1 : 1 ≤ n) (h2 : n ≤ 4294967296) : Calls Try.prog 37 #[.pointer (some ⟨C, 0, none⟩), .int .i64 n] w (RetN 63 w C 0 (n - 1)) := by
  by_cases hn : n ≤ 256
  · go_enter Try.func37, Try.ntmps37
    go_wp2_with fail
    refine (l01Byte_any _ h).mono ?_
    rintro e w1 ⟨x, x1, x2, rfl, hc, hg⟩
    go_wp2
    go_ret
    exact ⟨x % n, Int.emod_nonneg _ (by omega), by have := Int.emod_lt_of_pos x (show 0 < n by omega); omega, rfl, hc, hg⟩
  · go_enter Try.func37, Try.ntmps37
    go_wp2_with fail
    refine (l01Byte_any _ h).mono ?_
    rintro e w1 ⟨x, x1, x2, rfl, c1, g1⟩
    go_wp2_with fail
    refine (l01Byte_any _ c1).mono ?_
    rintro e w2 ⟨y, y1, y2, rfl, c2, g2⟩
    go_wp2_with fail
    refine (l01Byte_any _ c2).mono ?_
    rintro e w3 ⟨z, z1, z2, rfl, c3, g3⟩
    go_wp2_with fail
    refine (l01Byte_any _ c3).mono ?_
    rintro e w4 ⟨u, u1, u2, rfl, c4, g4⟩
    go_wp2
    go_ret
    exact ⟨_, Int.emod_nonneg _ (by omega), by have := Int.emod_lt_of_pos (x * 16777216 + y * 65536 + z * 256 + u) (show 0 < n by omega); omega, rfl, c4, gr_same (gr_same (gr_same g1 g2) g3) g4⟩
theorem l01Once_any {C : Nat} (n : Int) (w : World) (h : Cur 63 w C) (h1 : 1 ≤ n) (h2 : n ≤ 4294967296) : Calls Try.prog 38 #[.pointer (some ⟨C, 0, none⟩), .int .i64 n] w (RetB 63 w C) := by
  go_enter Try.func38, Try.ntmps38
  go_wp2_with fail
  refine (l01Below_any n _ h h1 h2).mono ?_
  rintro e w1 ⟨x, x1, x2, rfl, hc, hg⟩
  go_wp2
  go_ret
  exact ⟨_, rfl, hc, hg⟩
def RetAt (w : World) (lo hi : Int) (e : Ending) (w' : World) : Prop := ∃ x : Int, lo ≤ x ∧ x ≤ hi ∧ e = .returned (.int .i64 x) ∧ w = w'
theorem at_any {v : Value} {n : Nat} (i : Int) (w : World) (h : BytesN w v n) (h0 : 0 ≤ i) (h1 : i ≤ 1000) : Calls Try.prog 12 #[v, .int .i64 i] w (RetAt w 0 255) := by
  obtain ⟨a, cap, rfl, hcap, hmax, hat⟩ := h
  unfold maxLen at hmax
  by_cases hn : n = 0
  · subst hn
    clear hat
    go_enter Try.func12, Try.ntmps12
    go_wp2
    go_ret
    exact ⟨0, by omega, by omega, rfl, rfl⟩
  · have hn' : ((n : Int) == 0) = false := by simp; omega
    obtain ⟨b, off, rfl, hcs⟩ : ∃ b off, a = some ⟨b, off, none⟩ ∧ ∀ i, i < n → ∃ x : Int, 0 ≤ x ∧ x ≤ 255 ∧ w.cell? ⟨b, off + i, none⟩ = some (.int .u8 x) := by
      rcases hat with h0 | h0
      · omega
      · exact h0
    have m1 := Int.emod_nonneg (i * 5 + 1) (show (n : Int) ≠ 0 by omega)
    have m2 := Int.emod_lt_of_pos (i * 5 + 1) (show 0 < (n : Int) by omega)
    obtain ⟨y, y1, y2, hcy⟩ := hcs ((i * 5 + 1) % (n : Int)).toNat (by omega)
    clear hcs hat
    have hn1 : 1 ≤ (n : Int) := by omega
    clear hn
    go_enter Try.func12, Try.ntmps12
    go_wp2
    go_ret
    exact ⟨y, y1, y2, rfl, rfl⟩
theorem big_any {v : Value} {n : Nat} (w : World) (h : BytesN w v n) : Calls Try.prog 10 #[v] w fun e w' => e = .returned (.bool (decide (1048576 < (n : Int)))) ∧ w = w' := by
  obtain ⟨a, cap, rfl, hcap, hmax, hat⟩ := h
  unfold maxLen at hmax
  clear hat
  go_enter Try.func10, Try.ntmps10
  go_wp2
  go_ret
  exact ⟨rfl, rfl⟩
end Go.Proofs.Ytbmgmolnknnaiaa
