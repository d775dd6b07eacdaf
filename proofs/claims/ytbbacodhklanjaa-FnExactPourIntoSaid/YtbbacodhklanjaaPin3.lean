/- Pouring into a chain: the model's copy. -/
import Derived.Test.YtbbacodhklanjaaPin2
import Derived.Deep.DrawnRows
namespace Go.Proofs.Ytbbacodhklanjaa
open Go.RowKit
attribute [local go_sem ↓] Go.wp_at_zero Go.wp_at_succ

theorem l05Copy_any {u v : Value} {ps : List (Int × Int)} {xs : List Int} (w : World) (hu : Pairs w u ps) (hv : Ints w v xs) (h1 : ps.length ≤ 1048576) (h2 : xs.length ≤ 1048576) :
    Calls Try.prog 68 #[.agg #[u, v]] w (RetCh 25 3 w ps xs) := by
  have HU := hid hu
  have HV := hid hv
  obtain ⟨hpb, a, cap, rfl, _, _, hat⟩ := hu
  obtain ⟨hxb, a', cap', rfl, _, _, hat'⟩ := hv
  obtain ⟨i0, hi, hz0, hz1, hz2⟩ := info_parts info_cist
  obtain ⟨j0, hj, hy0, hy1, hy2⟩ := info_parts info_int
  have HPB := hid hpb
  have HXB := hid hxb
  clear hat hat' hpb hxb
  go_enter Try.func68, Try.ntmps68
  go_wp2_with fail
  have HON : Hid (∀ W W' : World, (W.cell? ⟨w.heap.size, 0, none⟩ = some (.slice a ps.length cap) ∧ W.cell? ⟨w.heap.size, 1, none⟩ = some (.slice a' xs.length cap') ∧ CpInv w W) → Gr W W' none → (W'.cell? ⟨w.heap.size, 0, none⟩ = some (.slice a ps.length cap) ∧ W'.cell? ⟨w.heap.size, 1, none⟩ = some (.slice a' xs.length cap') ∧ CpInv w W')) := fun W W' hh hg =>
    ⟨World.grownBy.cell hg hh.1 (by simp), World.grownBy.cell hg hh.2.1 (by simp), hh.2.2.on hg⟩
  have HA : Hid (((w.alloc (.cells #[.slice a ps.length cap, .slice a' xs.length cap'] 52)).alloc (.cells #[.slice none 0 0, .slice none 0 0] 52)).drew.cell? ⟨w.heap.size, 0, none⟩ = some (.slice a ps.length cap) ∧ ((w.alloc (.cells #[.slice a ps.length cap, .slice a' xs.length cap'] 52)).alloc (.cells #[.slice none 0 0, .slice none 0 0] 52)).drew.cell? ⟨w.heap.size, 1, none⟩ = some (.slice a' xs.length cap') ∧ CpInv w ((w.alloc (.cells #[.slice a ps.length cap, .slice a' xs.length cap'] 52)).alloc (.cells #[.slice none 0 0, .slice none 0 0] 52)).drew) :=
    ⟨by simp [go_sem], by simp [go_sem], gr_drew (gr_alloc (gr_alloc (gr_refl _ _) _) _), by simp, ⟨.slice none 0 0, by simp [go_sem]⟩, ⟨.slice none 0 0, by simp [go_sem]⟩, by simp [go_sem], by simp [go_sem]⟩
  have HROW : Hid (∀ (W W' : World) (u : Value), (W.cell? ⟨w.heap.size, 0, none⟩ = some (.slice a ps.length cap) ∧ W.cell? ⟨w.heap.size, 1, none⟩ = some (.slice a' xs.length cap') ∧ CpInv w W) → W.grownBy W' u.ownBlock → (∀ j, u.ownBlock = some j → w.heap.size + 2 ≤ j) → (W'.cell? ⟨w.heap.size, 0, none⟩ = some (.slice a ps.length cap) ∧ W'.cell? ⟨w.heap.size, 1, none⟩ = some (.slice a' xs.length cap') ∧ CpInv w W')) := fun W W' u hh hg hb =>
    ⟨World.grownBy.cell hg hh.1 (fun e => by have := hb _ e.symm; dsimp only at this; omega), World.grownBy.cell hg hh.2.1 (fun e => by have := hb _ e.symm; dsimp only at this; omega), by
      cases hu : u.ownBlock with
      | none => rw [hu] at hg; exact hh.2.2.on hg
      | some g => rw [hu] at hg; exact hh.2.2.row hg (hb g hu)⟩
  have HS : Hid (∀ W : World, (W.cell? ⟨w.heap.size, 0, none⟩ = some (.slice a ps.length cap) ∧ W.cell? ⟨w.heap.size, 1, none⟩ = some (.slice a' xs.length cap') ∧ CpInv w W) → SrcC W 1 (.slice a' xs.length cap') xs.length (xs.map (Value.int .i64)) ∧ w.heap.size + 2 ≤ W.heap.size ∧ SrcC W 2 (.slice a ps.length cap) ps.length (pcells ps)) := fun W hh =>
    ⟨(HV.out.on hh.2.2.1).src, hh.2.2.2.1, (HU.out.on hh.2.2.1).src⟩
  have HSET : Hid (∀ (W : World) (x y : Value), (W.cell? ⟨w.heap.size, 0, none⟩ = some (.slice a ps.length cap) ∧ W.cell? ⟨w.heap.size, 1, none⟩ = some (.slice a' xs.length cap') ∧ CpInv w W) → (((W.setCell ⟨w.heap.size + 1, 0, none⟩ x).setCell ⟨w.heap.size + 1, 1, none⟩ y).cell? ⟨w.heap.size, 0, none⟩ = some (.slice a ps.length cap) ∧ ((W.setCell ⟨w.heap.size + 1, 0, none⟩ x).setCell ⟨w.heap.size + 1, 1, none⟩ y).cell? ⟨w.heap.size, 1, none⟩ = some (.slice a' xs.length cap') ∧ CpInv w ((W.setCell ⟨w.heap.size + 1, 0, none⟩ x).setCell ⟨w.heap.size + 1, 1, none⟩ y))) := fun W x y hh =>
    ⟨set_other (by simp) (set_other (by simp) hh.1), set_other (by simp) (set_other (by simp) hh.2.1), hh.2.2.set x y⟩
  go_region_held3 (fun w' => w'.cell? ⟨w.heap.size, 0, none⟩ = some (.slice a ps.length cap) ∧ w'.cell? ⟨w.heap.size, 1, none⟩ = some (.slice a' xs.length cap') ∧ CpInv w w')
    (first | assumption | exact HON.out _ _ (by assumption) (gr_alloc (gr_refl _ _) _) | exact HA.out | exact HSET.out _ _ _ (by assumption) | exact HON.out _ _ HA.out (gr_drew (gr_alloc (gr_refl _ _) _)))
    (first
      | (refine step_append_srcK _ (by rfl) _ _ _ (by rfl) (w.heap.size + 2) 25 i0 (.agg #[.int .i64 0, .int .i64 0]) 2 16 Try.underlying50 hi hz0 hz1 hz2 (by rfl) (by decide) _ 0 [] (by rfl) (by first | exact (e_last _ _ _ _ _ (by simp) (by omega)).drew | exact ((e_last _ _ _ _ _ (by simp) (by omega)).alloc _).drew) (.slice a ps.length cap) ps.length (pcells ps) (by rfl) (HS.out _ (by assumption)).2.2 (by unfold maxLen; omega) (by omega) (HS.out _ (by assumption)).2.1 ?_; intro v6 w6 hown g6 r6 b6; obtain ⟨a6, c6, rfl⟩ := sl_own hown; have s6 := HROW.out _ w6 _ (by assumption) g6 b6)
      | (refine step_append_srcK _ (by rfl) _ _ _ (by rfl) (w.heap.size + 2) 3 j0 (.int .i64 0) 1 8 Try.underlying40 hj hy0 hy1 hy2 (by rfl) (by decide) _ 0 [] (by rfl) (by first | exact e_last _ _ _ _ _ rfl (HS.out _ s6).2.1 | exact r6 _ _ _ _ _ _ (by decide) ((e_last _ _ _ _ _ (by simp) (by omega)).alloc _).drew | exact r6 _ _ _ _ _ _ (by decide) (e_last _ _ _ _ _ (by simp) (by omega)).drew) (.slice a' xs.length cap') xs.length (xs.map (Value.int .i64)) (by rfl) (HS.out _ (by assumption)).1 (by unfold maxLen; omega) (by omega) (HS.out _ (by assumption)).2.1 ?_; intro v7 w7 hown7 g7 r7 b7; obtain ⟨a7, c7, rfl⟩ := sl_own hown7; have s7 := HROW.out _ w7 _ (by assumption) g7 b7; have o67 : w7.ownsRow (w.heap.size + 2) 25 2 (.slice a6 (0 + ps.length) c6) (0 + ps.length) ([] ++ pcells ps) := (by first | exact r7 _ _ _ _ _ _ (by decide) hown | exact r7 _ _ _ _ _ _ (by decide) (hown.alloc _)); obtain ⟨_, _, ⟨x0, t0⟩, ⟨x1, t1⟩, t2, t3⟩ := s7.2.2))
  all_goals (
    have m0 : (((w7.setCell ⟨w.heap.size + 1, 0, none⟩ (Value.slice a6 ps.length c6)).setCell ⟨w.heap.size + 1, 1, none⟩ (Value.slice a7 xs.length c7))).cell? ⟨w.heap.size + 1, 0, none⟩ = some (Value.slice a6 ps.length c6) := set_other (by simp) (set_same t0)
    have m1 : (((w7.setCell ⟨w.heap.size + 1, 0, none⟩ (Value.slice a6 ps.length c6)).setCell ⟨w.heap.size + 1, 1, none⟩ (Value.slice a7 xs.length c7))).cell? ⟨w.heap.size + 1, 1, none⟩ = some (Value.slice a7 xs.length c7) := set_same (set_other (by simp) t1)
    have hh := (HSET.out w7 (Value.slice a6 ps.length c6) (Value.slice a7 xs.length c7) s7).2.2.1
    rw [Nat.zero_add, List.nil_append] at o67 hown7
    have hP : OwnP 25 (((w7.setCell ⟨w.heap.size + 1, 0, none⟩ (Value.slice a6 ps.length c6)).setCell ⟨w.heap.size + 1, 1, none⟩ (Value.slice a7 xs.length c7))) w.heap.size (.slice a6 ps.length c6) ps :=
      OwnP.mono' (B := w.heap.size + 2) ((OwnP.set ⟨HPB.out, o67⟩ (by simp) _).set (by simp) _) (by omega)
    have hI : OwnI 3 (((w7.setCell ⟨w.heap.size + 1, 0, none⟩ (Value.slice a6 ps.length c6)).setCell ⟨w.heap.size + 1, 1, none⟩ (Value.slice a7 xs.length c7))) w.heap.size (.slice a7 xs.length c7) xs :=
      OwnI.mono (B := w.heap.size + 2) ((OwnI.set ⟨HXB.out, hown7⟩ (by simp) _).set (by simp) _) (by omega)
    have HF := hid (And.intro hP (And.intro hI hh))
    clear hh hP hI s6 s7 o67 hown hown7 g6 g7 b6 b7 r6 r7
    go_wp2
    exact bodyPost_ret (v := .agg #[.slice a6 ps.length c6, .slice a7 xs.length c7]) (by simp [results, Try.results68, go_sem, m0, m1]) rfl ⟨_, _, rfl, HF.out⟩)
end Go.Proofs.Ytbbacodhklanjaa
