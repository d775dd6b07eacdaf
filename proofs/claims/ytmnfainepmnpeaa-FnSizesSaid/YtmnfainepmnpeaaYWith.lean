/- A year with another room: the copies. -/
import Derived.Test.YtmnfainepmnpeaaYAvg
namespace Go.Proofs.Ytmnfainepmnpeaa
open Go.RowKit

def withOk (r s n : Int) (xs : List Int) (m : Int) : Bool := yearB r s xs n && inB m 1 1000000
def withR (r s n : Int) (xs : List Int) (m : Int) : Int := if withOk r s n xs m then m else r
def withS (r s n : Int) (xs : List Int) (m : Int) : Int := if withOk r s n xs m then min s m else s
theorem copyInts_any {v : Value} {xs : List Int} (w : World) (h : Ints w v xs) (hl : xs.length ≤ 1048576) :
    Calls Try.prog 60 #[v] w (RetI 3 w xs) := by
  have HS := hid h.src
  have HB := hid h.1
  obtain ⟨i0, hi, hz0, hz1, hz2⟩ := info_parts info_int
  clear h
  go_enter Try.func60, Try.ntmps60
  go_wp2_with (at_builtin; refine wpList_append_srcC _ rfl _ _ 22 rfl w.heap.size 3 i0 (.int .i64 0) 1 8 Try.underlying22 hi hz0 hz1 hz2 rfl (by decide) _ 0 [] rfl (World.ownsRow_nil _ _ _ _) v xs.length (xs.map (Value.int .i64)) rfl HS.out (by unfold maxLen; omega) (by omega) (Nat.le_refl _) ?_)
  intro v' w' hown hg
  have HO := hid hown
  have HG := hid hg
  clear hown hg
  go_wp2
  go_ret
  exact ⟨_, rfl, ⟨HB.out, HO.out⟩, HG.out⟩
/-- The world behind w in which a box for the result lies, two blocks behind. -/
def CpY (w W : World) : Prop := Gr w W none ∧ w.heap.size + 2 ≤ W.heap.size ∧ ∃ y0 y1 y2 y3, Blk W (w.heap.size + 1) #[y0, y1, y2, y3] 27
theorem CpY.on {w a b : World} (h : CpY w a) (hg : Gr a b none) : CpY w b := by
  obtain ⟨h1, h2, y0, y1, y2, y3, h3⟩ := h
  exact ⟨gr_then h1 hg, Nat.le_trans h2 (gr_le hg), y0, y1, y2, y3, h3.on hg⟩
theorem CpY.row {w a b : World} {g : Nat} (h : CpY w a) (hg : Gr a b (some g)) (hl : w.heap.size + 2 ≤ g) : CpY w b := by
  obtain ⟨h1, h2, y0, y1, y2, y3, h3⟩ := h
  exact ⟨gr_trans h1 hg (fun j e => by cases e; exact .inr (by omega)), Nat.le_trans h2 (gr_le hg), y0, y1, y2, y3, h3.kept hg (by simp; omega)⟩
theorem gr_da (a : World) (o : Obj) : Gr a.drew (a.alloc o).drew none := gr_alloc (gr_refl a.drew none) o
theorem blk4_set {a : World} {B : Nat} {T : TypeId} {x0 x1 x2 x3 y0 y1 y2 y3 : Value} (h : Blk a B #[y0, y1, y2, y3] T) : Blk ((((a.setCell ⟨B, 0, none⟩ x0).setCell ⟨B, 1, none⟩ x1).setCell ⟨B, 2, none⟩ x2).setCell ⟨B, 3, none⟩ x3) B #[x0, x1, x2, x3] T := by
  have b0 := Go.Joins.block_setCell h (i := 0) x0
  have b1 := Go.Joins.block_setCell b0 (i := 1) x1
  have b2 := Go.Joins.block_setCell b1 (i := 2) x2
  have b3 := Go.Joins.block_setCell b2 (i := 3) x3
  unfold Blk
  simpa using b3
theorem CpY.set {w a : World} (h : CpY w a) (x0 x1 x2 x3 : Value) : CpY w (((((a.setCell ⟨w.heap.size + 1, 0, none⟩ x0).setCell ⟨w.heap.size + 1, 1, none⟩ x1).setCell ⟨w.heap.size + 1, 2, none⟩ x2).setCell ⟨w.heap.size + 1, 3, none⟩ x3)) := by
  obtain ⟨h1, h2, y0, y1, y2, y3, h3⟩ := h
  exact ⟨gr_set (gr_set (gr_set (gr_set h1 (.inr (by simp)) _) (.inr (by simp)) _) (.inr (by simp)) _) (.inr (by simp)) _, by simpa using h2, _, _, _, _, blk4_set h3⟩
set_option maxHeartbeats 1000000 in
theorem l07Copy_any {v : Value} {xs : List Int} (r s n : Int) (w : World) (hv : Ints w v xs) (hl : xs.length ≤ 1048576) :
    Calls Try.prog 59 #[.agg #[.int .i64 r, .int .i64 s, v, .int .i64 n]] w (RetY 3 w r s xs n) := by
  have HV := hid hv
  obtain ⟨hb, a, cap, rfl, _, _, hat⟩ := hv
  obtain ⟨i0, hi, hz0, hz1, hz2⟩ := info_parts info_int
  have HB := hid hb
  clear hat hb
  go_enter Try.func59, Try.ntmps59
  go_wp2_with fail
  have HK : Hid (∀ (W W' : World) (q : Option Nat), (W.cell? ⟨w.heap.size, 0, none⟩ = some (.int .i64 r) ∧ W.cell? ⟨w.heap.size, 1, none⟩ = some (.int .i64 s) ∧ W.cell? ⟨w.heap.size, 2, none⟩ = some (.slice a xs.length cap) ∧ W.cell? ⟨w.heap.size, 3, none⟩ = some (.int .i64 n) ∧ CpY w W) → Gr W W' q → (∀ j, q = some j → w.heap.size + 2 ≤ j) → (W'.cell? ⟨w.heap.size, 0, none⟩ = some (.int .i64 r) ∧ W'.cell? ⟨w.heap.size, 1, none⟩ = some (.int .i64 s) ∧ W'.cell? ⟨w.heap.size, 2, none⟩ = some (.slice a xs.length cap) ∧ W'.cell? ⟨w.heap.size, 3, none⟩ = some (.int .i64 n) ∧ CpY w W')) := fun W W' q hh hg hq => by
    have hn : some w.heap.size ≠ q := fun e => by have := hq _ e.symm; omega
    refine ⟨World.grownBy.cell hg hh.1 hn, World.grownBy.cell hg hh.2.1 hn, World.grownBy.cell hg hh.2.2.1 hn, World.grownBy.cell hg hh.2.2.2.1 hn, ?_⟩
    cases q with
    | none => exact hh.2.2.2.2.on hg
    | some g => exact hh.2.2.2.2.row hg (hq g rfl)
  have HON : Hid (∀ (W W' : World), (W.cell? ⟨w.heap.size, 0, none⟩ = some (.int .i64 r) ∧ W.cell? ⟨w.heap.size, 1, none⟩ = some (.int .i64 s) ∧ W.cell? ⟨w.heap.size, 2, none⟩ = some (.slice a xs.length cap) ∧ W.cell? ⟨w.heap.size, 3, none⟩ = some (.int .i64 n) ∧ CpY w W) → Gr W W' none → (W'.cell? ⟨w.heap.size, 0, none⟩ = some (.int .i64 r) ∧ W'.cell? ⟨w.heap.size, 1, none⟩ = some (.int .i64 s) ∧ W'.cell? ⟨w.heap.size, 2, none⟩ = some (.slice a xs.length cap) ∧ W'.cell? ⟨w.heap.size, 3, none⟩ = some (.int .i64 n) ∧ CpY w W')) := fun W W' hh hg => HK.out W W' none hh hg (by intro j e; cases e)
  have HSET : Hid (∀ (W : World) (x0 x1 x2 x3 : Value), (W.cell? ⟨w.heap.size, 0, none⟩ = some (.int .i64 r) ∧ W.cell? ⟨w.heap.size, 1, none⟩ = some (.int .i64 s) ∧ W.cell? ⟨w.heap.size, 2, none⟩ = some (.slice a xs.length cap) ∧ W.cell? ⟨w.heap.size, 3, none⟩ = some (.int .i64 n) ∧ CpY w W) → ((((((W.setCell ⟨w.heap.size + 1, 0, none⟩ x0).setCell ⟨w.heap.size + 1, 1, none⟩ x1).setCell ⟨w.heap.size + 1, 2, none⟩ x2).setCell ⟨w.heap.size + 1, 3, none⟩ x3)).cell? ⟨w.heap.size, 0, none⟩ = some (.int .i64 r) ∧ (((((W.setCell ⟨w.heap.size + 1, 0, none⟩ x0).setCell ⟨w.heap.size + 1, 1, none⟩ x1).setCell ⟨w.heap.size + 1, 2, none⟩ x2).setCell ⟨w.heap.size + 1, 3, none⟩ x3)).cell? ⟨w.heap.size, 1, none⟩ = some (.int .i64 s) ∧ (((((W.setCell ⟨w.heap.size + 1, 0, none⟩ x0).setCell ⟨w.heap.size + 1, 1, none⟩ x1).setCell ⟨w.heap.size + 1, 2, none⟩ x2).setCell ⟨w.heap.size + 1, 3, none⟩ x3)).cell? ⟨w.heap.size, 2, none⟩ = some (.slice a xs.length cap) ∧ (((((W.setCell ⟨w.heap.size + 1, 0, none⟩ x0).setCell ⟨w.heap.size + 1, 1, none⟩ x1).setCell ⟨w.heap.size + 1, 2, none⟩ x2).setCell ⟨w.heap.size + 1, 3, none⟩ x3)).cell? ⟨w.heap.size, 3, none⟩ = some (.int .i64 n) ∧ CpY w (((((W.setCell ⟨w.heap.size + 1, 0, none⟩ x0).setCell ⟨w.heap.size + 1, 1, none⟩ x1).setCell ⟨w.heap.size + 1, 2, none⟩ x2).setCell ⟨w.heap.size + 1, 3, none⟩ x3)))) := fun W x0 x1 x2 x3 hh =>
    ⟨set_other (by simp) (set_other (by simp) (set_other (by simp) (set_other (by simp) hh.1))), set_other (by simp) (set_other (by simp) (set_other (by simp) (set_other (by simp) hh.2.1))), set_other (by simp) (set_other (by simp) (set_other (by simp) (set_other (by simp) hh.2.2.1))), set_other (by simp) (set_other (by simp) (set_other (by simp) (set_other (by simp) hh.2.2.2.1))), hh.2.2.2.2.set x0 x1 x2 x3⟩
  have HA : Hid ((((w.alloc (.cells #[.int .i64 r, .int .i64 s, .slice a xs.length cap, .int .i64 n] 27)).alloc (.cells #[.int .i64 0, .int .i64 0, .slice none 0 0, .int .i64 0] 27))).drew.cell? ⟨w.heap.size, 0, none⟩ = some (.int .i64 r) ∧ (((w.alloc (.cells #[.int .i64 r, .int .i64 s, .slice a xs.length cap, .int .i64 n] 27)).alloc (.cells #[.int .i64 0, .int .i64 0, .slice none 0 0, .int .i64 0] 27))).drew.cell? ⟨w.heap.size, 1, none⟩ = some (.int .i64 s) ∧ (((w.alloc (.cells #[.int .i64 r, .int .i64 s, .slice a xs.length cap, .int .i64 n] 27)).alloc (.cells #[.int .i64 0, .int .i64 0, .slice none 0 0, .int .i64 0] 27))).drew.cell? ⟨w.heap.size, 2, none⟩ = some (.slice a xs.length cap) ∧ (((w.alloc (.cells #[.int .i64 r, .int .i64 s, .slice a xs.length cap, .int .i64 n] 27)).alloc (.cells #[.int .i64 0, .int .i64 0, .slice none 0 0, .int .i64 0] 27))).drew.cell? ⟨w.heap.size, 3, none⟩ = some (.int .i64 n) ∧ CpY w (((w.alloc (.cells #[.int .i64 r, .int .i64 s, .slice a xs.length cap, .int .i64 n] 27)).alloc (.cells #[.int .i64 0, .int .i64 0, .slice none 0 0, .int .i64 0] 27))).drew) :=
    ⟨by simp [go_sem], by simp [go_sem], by simp [go_sem], by simp [go_sem], gr_drew (gr_alloc (gr_alloc (gr_refl _ _) _) _), by simp, _, _, _, _, Blk.on (show Blk (((w.alloc (.cells #[.int .i64 r, .int .i64 s, .slice a xs.length cap, .int .i64 n] 27)).alloc (.cells #[.int .i64 0, .int .i64 0, .slice none 0 0, .int .i64 0] 27))) (w.heap.size + 1) #[.int .i64 0, .int .i64 0, .slice none 0 0, .int .i64 0] 27 by have := blk_new (w.alloc (.cells #[.int .i64 r, .int .i64 s, .slice a xs.length cap, .int .i64 n] 27)) #[.int .i64 0, .int .i64 0, .slice none 0 0, .int .i64 0] 27; simpa using this) (gr_drew (gr_refl _ _))⟩
  have HA1 : Hid (((((w.alloc (.cells #[.int .i64 r, .int .i64 s, .slice a xs.length cap, .int .i64 n] 27)).alloc (.cells #[.int .i64 0, .int .i64 0, .slice none 0 0, .int .i64 0] 27))).alloc (.cells #[] 3)).drew.cell? ⟨w.heap.size, 0, none⟩ = some (.int .i64 r) ∧ ((((w.alloc (.cells #[.int .i64 r, .int .i64 s, .slice a xs.length cap, .int .i64 n] 27)).alloc (.cells #[.int .i64 0, .int .i64 0, .slice none 0 0, .int .i64 0] 27))).alloc (.cells #[] 3)).drew.cell? ⟨w.heap.size, 1, none⟩ = some (.int .i64 s) ∧ ((((w.alloc (.cells #[.int .i64 r, .int .i64 s, .slice a xs.length cap, .int .i64 n] 27)).alloc (.cells #[.int .i64 0, .int .i64 0, .slice none 0 0, .int .i64 0] 27))).alloc (.cells #[] 3)).drew.cell? ⟨w.heap.size, 2, none⟩ = some (.slice a xs.length cap) ∧ ((((w.alloc (.cells #[.int .i64 r, .int .i64 s, .slice a xs.length cap, .int .i64 n] 27)).alloc (.cells #[.int .i64 0, .int .i64 0, .slice none 0 0, .int .i64 0] 27))).alloc (.cells #[] 3)).drew.cell? ⟨w.heap.size, 3, none⟩ = some (.int .i64 n) ∧ CpY w ((((w.alloc (.cells #[.int .i64 r, .int .i64 s, .slice a xs.length cap, .int .i64 n] 27)).alloc (.cells #[.int .i64 0, .int .i64 0, .slice none 0 0, .int .i64 0] 27))).alloc (.cells #[] 3)).drew) := HON.out _ _ HA.out (gr_da _ _)
  have HS : Hid (∀ W : World, (W.cell? ⟨w.heap.size, 0, none⟩ = some (.int .i64 r) ∧ W.cell? ⟨w.heap.size, 1, none⟩ = some (.int .i64 s) ∧ W.cell? ⟨w.heap.size, 2, none⟩ = some (.slice a xs.length cap) ∧ W.cell? ⟨w.heap.size, 3, none⟩ = some (.int .i64 n) ∧ CpY w W) → SrcC W 1 (.slice a xs.length cap) xs.length (xs.map (Value.int .i64)) ∧ w.heap.size + 2 ≤ W.heap.size) := fun W hh =>
    ⟨(HV.out.on hh.2.2.2.2.1).src, hh.2.2.2.2.2.1⟩
  go_region_held3 (fun w' => w'.cell? ⟨w.heap.size, 0, none⟩ = some (.int .i64 r) ∧ w'.cell? ⟨w.heap.size, 1, none⟩ = some (.int .i64 s) ∧ w'.cell? ⟨w.heap.size, 2, none⟩ = some (.slice a xs.length cap) ∧ w'.cell? ⟨w.heap.size, 3, none⟩ = some (.int .i64 n) ∧ CpY w w')
    (first | with_reducible exact HA.out | with_reducible exact s7 | with_reducible exact HSET.out _ _ _ _ _ s7 | with_reducible exact HA1.out)
    (first
      | (refine step_append_srcK _ (by rfl) _ _ _ (by rfl) (w.heap.size + 2) 3 i0 (.int .i64 0) 1 8 Try.underlying22 hi hz0 hz1 hz2 (by rfl) (by decide) _ 0 [] (by rfl) (by first | exact (e_last _ _ _ _ _ (by simp) (by omega)).drew) (.slice a xs.length cap) xs.length (xs.map (Value.int .i64)) (by rfl) (HS.out _ (by assumption)).1 (by unfold maxLen; omega) (by omega) (HS.out _ (by assumption)).2 ?_; intro v7 w7 hown7 g7 r7 b7; obtain ⟨a7, c7, rfl⟩ := sl_own hown7; have s7 := HK.out _ w7 _ (by assumption) g7 b7; obtain ⟨_, _, y0, y1, y2, y3, h3⟩ := s7.2.2.2.2; have c0' := Go.Joins.cell_of_block h3 0; have c1' := Go.Joins.cell_of_block h3 1; have c2' := Go.Joins.cell_of_block h3 2; have c3' := Go.Joins.cell_of_block h3 3; have f0' := Go.Joins.unfrozen_of_block h3 0; have f1' := Go.Joins.unfrozen_of_block h3 1; have f2' := Go.Joins.unfrozen_of_block h3 2; have f3' := Go.Joins.unfrozen_of_block h3 3; simp at c0' c1' c2' c3'))
  rw [Nat.zero_add, List.nil_append] at hown7
  have hI : OwnI 3 (((((w7.setCell ⟨w.heap.size + 1, 0, none⟩ (.int .i64 r)).setCell ⟨w.heap.size + 1, 1, none⟩ (.int .i64 s)).setCell ⟨w.heap.size + 1, 2, none⟩ (.slice a7 xs.length c7)).setCell ⟨w.heap.size + 1, 3, none⟩ (.int .i64 n))) w.heap.size (.slice a7 xs.length c7) xs :=
    OwnI.mono (B := w.heap.size + 2) ((((OwnI.set ⟨HB.out, hown7⟩ (by simp) _).set (by simp) _).set (by simp) _).set (by simp) _) (by omega)
  have bF : Blk (((((w7.setCell ⟨w.heap.size + 1, 0, none⟩ (.int .i64 r)).setCell ⟨w.heap.size + 1, 1, none⟩ (.int .i64 s)).setCell ⟨w.heap.size + 1, 2, none⟩ (.slice a7 xs.length c7)).setCell ⟨w.heap.size + 1, 3, none⟩ (.int .i64 n))) (w.heap.size + 1) #[.int .i64 r, .int .i64 s, .slice a7 xs.length c7, .int .i64 n] 27 := blk4_set h3
  have hG := (s7.2.2.2.2.set (.int .i64 r) (.int .i64 s) (.slice a7 xs.length c7) (.int .i64 n)).1
  have m0 := Go.Joins.cell_of_block bF 0
  have m1 := Go.Joins.cell_of_block bF 1
  have m2 := Go.Joins.cell_of_block bF 2
  have m3 := Go.Joins.cell_of_block bF 3
  simp only [List.getElem?_toArray, List.getElem?_cons_zero, List.getElem?_cons_succ] at m0 m1 m2 m3
  have HF := hid (And.intro hI hG)
  clear hI hG bF hown7 g7 r7 b7 h3 s7
  go_wp2
  exact bodyPost_ret (v := .agg #[.int .i64 r, .int .i64 s, .slice a7 xs.length c7, .int .i64 n]) (by simp [results, Try.results59, go_sem, m0, m1, m2, m3]) rfl ⟨_, rfl, HF.out⟩
end Go.Proofs.Ytmnfainepmnpeaa
