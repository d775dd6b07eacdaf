/- Pouring into a chain: the copies. -/
import Derived.Test.YtbmgmolnknnaiaaPin
import Derived.Test.YtbmgmolnknnaiaaAppAny
import Derived.Deep.RegionHeld3
namespace Go.Proofs.Ytbmgmolnknnaiaa
open Go.RowKit

theorem copyInts_any {v : Value} {xs : List Int} (w : World) (h : Ints w v xs) (hl : xs.length ≤ 1048576) :
    Calls Try.prog 39 #[v] w (RetI 3 w xs) := by
  have HS := hid h.src
  have HB := hid h.1
  obtain ⟨i0, hi, hz0, hz1, hz2⟩ := info_parts info_int
  clear h
  go_enter Try.func39, Try.ntmps39
  go_wp2_with (at_builtin; refine wpList_append_srcC _ rfl _ _ 39 rfl w.heap.size 3 i0 (.int .i64 0) 1 8 Try.underlying39 hi hz0 hz1 hz2 rfl (by decide) _ 0 [] rfl (World.ownsRow_nil _ _ _ _) v xs.length (xs.map (Value.int .i64)) rfl HS.out (by unfold maxLen; omega) (by omega) (Nat.le_refl _) ?_)
  intro v' w' hown hg
  have HO := hid hown
  have HG := hid hg
  clear hown hg
  go_wp2
  go_ret
  exact ⟨_, rfl, ⟨HB.out, HO.out⟩, HG.out⟩
theorem sl_own {w : World} {B : Nat} {E : TypeId} {s n : Nat} {v : Value} {xs : List Value} (h : w.ownsRow B E s v n xs) : ∃ a c, v = .slice a n c := by
  rcases h.2 with ⟨rfl, rfl⟩ | ⟨g, cap, cur, rfl, _⟩ <;> exact ⟨_, _, rfl⟩
/-- The world behind w in which a box for the result lies, two blocks behind. -/
def CpInv (w W : World) : Prop := Gr w W none ∧ w.heap.size + 2 ≤ W.heap.size ∧ (∃ x, W.cell? ⟨w.heap.size + 1, 0, none⟩ = some x) ∧ (∃ y, W.cell? ⟨w.heap.size + 1, 1, none⟩ = some y) ∧ W.frozen? ⟨w.heap.size + 1, 0, none⟩ = false ∧ W.frozen? ⟨w.heap.size + 1, 1, none⟩ = false
theorem CpInv.on {w a b : World} (h : CpInv w a) (hg : Gr a b none) : CpInv w b := by
  obtain ⟨h1, h2, ⟨x, h3⟩, ⟨y, h4⟩, h5, h6⟩ := h
  have := gr_le hg
  exact ⟨gr_then h1 hg, by omega, ⟨x, World.grownBy.cell hg h3 (by simp)⟩, ⟨y, World.grownBy.cell hg h4 (by simp)⟩, (gr_frozen hg _ _ (by omega)).trans h5, (gr_frozen hg _ _ (by omega)).trans h6⟩
theorem CpInv.set {w a : World} (h : CpInv w a) (x y : Value) : CpInv w ((a.setCell ⟨w.heap.size + 1, 0, none⟩ x).setCell ⟨w.heap.size + 1, 1, none⟩ y) := by
  obtain ⟨h1, h2, ⟨x', h3⟩, ⟨y', h4⟩, h5, h6⟩ := h
  exact ⟨gr_set (gr_set h1 (.inr (by simp)) _) (.inr (by simp)) _, by simpa using h2, ⟨x, set_other (by simp) (set_same h3)⟩, ⟨y, set_same (set_other (by simp) h4)⟩, by simp [h5], by simp [h6]⟩
theorem copyChain_any {u v : Value} {ps : List (Int × Int)} {xs : List Int} (w : World) (hu : Pairs w u ps) (hv : Ints w v xs) (h1 : ps.length ≤ 1048576) (h2 : xs.length ≤ 1048576) :
    Calls Try.prog 33 #[.agg #[u, v]] w (RetCh 24 3 w ps xs) := by
  have HU := hid hu
  have HV := hid hv
  obtain ⟨hpb, a, cap, rfl, _, _, hat⟩ := hu
  obtain ⟨_, a', cap', rfl, _, _, hat'⟩ := hv
  obtain ⟨i0, hi, hz0, hz1, hz2⟩ := info_parts info_cist
  have HPB := hid hpb
  clear hat hat' hpb
  go_enter Try.func33, Try.ntmps33
  go_wp2_with fail
  have HS : Hid (∀ W : World, (W.cell? ⟨w.heap.size, 0, none⟩ = some (.slice a ps.length cap) ∧ W.cell? ⟨w.heap.size, 1, none⟩ = some (.slice a' xs.length cap') ∧ CpInv w W) → CpInv w W ∧ Ints W (.slice a' xs.length cap') xs ∧ w.heap.size + 2 ≤ W.heap.size ∧ SrcC W 2 (.slice a ps.length cap) ps.length (pcells ps)) := fun W hh =>
    ⟨hh.2.2, HV.out.on hh.2.2.1, hh.2.2.2.1, (HU.out.on hh.2.2.1).src⟩
  have HON : Hid (∀ W W' : World, (W.cell? ⟨w.heap.size, 0, none⟩ = some (.slice a ps.length cap) ∧ W.cell? ⟨w.heap.size, 1, none⟩ = some (.slice a' xs.length cap') ∧ CpInv w W) → Gr W W' none → (W'.cell? ⟨w.heap.size, 0, none⟩ = some (.slice a ps.length cap) ∧ W'.cell? ⟨w.heap.size, 1, none⟩ = some (.slice a' xs.length cap') ∧ CpInv w W')) := fun W W' hh hg =>
    ⟨World.grownBy.cell hg hh.1 (by simp), World.grownBy.cell hg hh.2.1 (by simp), hh.2.2.on hg⟩
  have HSET : Hid (∀ (W : World) (x y : Value), (W.cell? ⟨w.heap.size, 0, none⟩ = some (.slice a ps.length cap) ∧ W.cell? ⟨w.heap.size, 1, none⟩ = some (.slice a' xs.length cap') ∧ CpInv w W) → (((W.setCell ⟨w.heap.size + 1, 0, none⟩ x).setCell ⟨w.heap.size + 1, 1, none⟩ y).cell? ⟨w.heap.size, 0, none⟩ = some (.slice a ps.length cap) ∧ ((W.setCell ⟨w.heap.size + 1, 0, none⟩ x).setCell ⟨w.heap.size + 1, 1, none⟩ y).cell? ⟨w.heap.size, 1, none⟩ = some (.slice a' xs.length cap') ∧ CpInv w ((W.setCell ⟨w.heap.size + 1, 0, none⟩ x).setCell ⟨w.heap.size + 1, 1, none⟩ y))) := fun W x y hh =>
    ⟨set_other (by simp) (set_other (by simp) hh.1), set_other (by simp) (set_other (by simp) hh.2.1), hh.2.2.set x y⟩
  have HA : Hid (((w.alloc (.cells #[.slice a ps.length cap, .slice a' xs.length cap'] 41)).alloc (.cells #[.slice none 0 0, .slice none 0 0] 41)).drew.cell? ⟨w.heap.size, 0, none⟩ = some (.slice a ps.length cap) ∧ ((w.alloc (.cells #[.slice a ps.length cap, .slice a' xs.length cap'] 41)).alloc (.cells #[.slice none 0 0, .slice none 0 0] 41)).drew.cell? ⟨w.heap.size, 1, none⟩ = some (.slice a' xs.length cap') ∧ CpInv w ((w.alloc (.cells #[.slice a ps.length cap, .slice a' xs.length cap'] 41)).alloc (.cells #[.slice none 0 0, .slice none 0 0] 41)).drew) :=
    ⟨by simp [go_sem], by simp [go_sem], gr_drew (gr_alloc (gr_alloc (gr_refl _ _) _) _), by simp, ⟨.slice none 0 0, by simp [go_sem]⟩, ⟨.slice none 0 0, by simp [go_sem]⟩, by simp [go_sem], by simp [go_sem]⟩
  go_region_held3 (fun w' => w'.cell? ⟨w.heap.size, 0, none⟩ = some (.slice a ps.length cap) ∧ w'.cell? ⟨w.heap.size, 1, none⟩ = some (.slice a' xs.length cap') ∧ CpInv w w')
    (first | exact HON.out _ _ (by assumption) (by assumption) | exact HA.out | exact HSET.out _ _ _ (by assumption))
    (first
      | (go_at_call 39; refine (copyInts_any _ (HS.out _ (by assumption)).2.1 h2).mono ?_; rintro e w' ⟨v7, rfl, i7, g7⟩; obtain ⟨a7, c7, rfl⟩ := sl_own i7.2; obtain ⟨_, _, ⟨x0, t0⟩, ⟨x1, t1⟩, t2, t3⟩ := (HS.out _ (by assumption)).1.on g7)
      | (refine step_append_srcC _ (by rfl) _ _ _ (by rfl) (w.heap.size + 2) 24 i0 (.agg #[.int .i64 0, .int .i64 0]) 2 16 Try.underlying38 hi hz0 hz1 hz2 (by rfl) (by decide) _ 0 [] (by rfl) (World.ownsRow_nil _ _ _ _) (.slice a ps.length cap) ps.length (pcells ps) (by rfl) (HS.out _ (by assumption)).2.2.2 (by unfold maxLen; omega) (by omega) (HS.out _ (by assumption)).2.2.1 ?_; intro v6 w6 hown g6; obtain ⟨a6, c6, rfl⟩ := sl_own hown))
  have hh : CpInv w (((w'.setCell ⟨w.heap.size + 1, 0, none⟩ (Value.slice a6 ps.length c6)).setCell ⟨w.heap.size + 1, 1, none⟩ (Value.slice a7 xs.length c7))) := by
    have hh : (((w'.setCell ⟨w.heap.size + 1, 0, none⟩ (Value.slice a6 ps.length c6)).setCell ⟨w.heap.size + 1, 1, none⟩ (Value.slice a7 xs.length c7))).cell? ⟨w.heap.size, 0, none⟩ = some (.slice a ps.length cap) ∧ (((w'.setCell ⟨w.heap.size + 1, 0, none⟩ (Value.slice a6 ps.length c6)).setCell ⟨w.heap.size + 1, 1, none⟩ (Value.slice a7 xs.length c7))).cell? ⟨w.heap.size, 1, none⟩ = some (.slice a' xs.length cap') ∧ CpInv w (((w'.setCell ⟨w.heap.size + 1, 0, none⟩ (Value.slice a6 ps.length c6)).setCell ⟨w.heap.size + 1, 1, none⟩ (Value.slice a7 xs.length c7))) := by assumption
    exact hh.2.2
  have z6 : w.heap.size + 2 ≤ w6.heap.size := by have := gr_le (show Gr (((w.alloc (.cells #[.slice a ps.length cap, .slice a' xs.length cap'] 41)).alloc (.cells #[.slice none 0 0, .slice none 0 0] 41)).drew) w6 none from g6); simp at this; omega
  have m0 : (((w'.setCell ⟨w.heap.size + 1, 0, none⟩ (Value.slice a6 ps.length c6)).setCell ⟨w.heap.size + 1, 1, none⟩ (Value.slice a7 xs.length c7))).cell? ⟨w.heap.size + 1, 0, none⟩ = some (Value.slice a6 ps.length c6) := set_other (by simp) (set_same t0)
  have m1 : (((w'.setCell ⟨w.heap.size + 1, 0, none⟩ (Value.slice a6 ps.length c6)).setCell ⟨w.heap.size + 1, 1, none⟩ (Value.slice a7 xs.length c7))).cell? ⟨w.heap.size + 1, 1, none⟩ = some (Value.slice a7 xs.length c7) := set_same (set_other (by simp) t1)
  rw [Nat.zero_add, List.nil_append] at hown
  have hP : OwnP 24 (((w'.setCell ⟨w.heap.size + 1, 0, none⟩ (Value.slice a6 ps.length c6)).setCell ⟨w.heap.size + 1, 1, none⟩ (Value.slice a7 xs.length c7))) w.heap.size (.slice a6 ps.length c6) ps :=
    OwnP.mono' (B := w.heap.size + 2) (((OwnP.on ⟨HPB.out, hown⟩ g7).set (by simp) _).set (by simp) _) (by omega)
  have hI : OwnI 3 (((w'.setCell ⟨w.heap.size + 1, 0, none⟩ (Value.slice a6 ps.length c6)).setCell ⟨w.heap.size + 1, 1, none⟩ (Value.slice a7 xs.length c7))) w.heap.size (.slice a7 xs.length c7) xs :=
    OwnI.mono (B := w6.heap.size) ((i7.set (by simp; omega) _).set (by simp; omega) _) (by omega)
  have HF := hid (And.intro hP (And.intro hI hh.1))
  clear hh hP hI i7 g7 hown g6
  go_wp2
  exact bodyPost_ret (v := .agg #[.slice a6 ps.length c6, .slice a7 xs.length c7]) (by simp [results, Try.results33, go_sem, m0, m1]) rfl ⟨_, _, rfl, HF.out⟩
end Go.Proofs.Ytbmgmolnknnaiaa
