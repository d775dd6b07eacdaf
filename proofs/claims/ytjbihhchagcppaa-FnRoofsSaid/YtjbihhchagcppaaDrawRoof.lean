/- Drawn roofs are in order. -/
import Derived.Test.YtjbihhchagcppaaDraw
import Derived.Test.YtjbihhchagcppaaSlc
import Derived.Test.YtjbihhchagcppaaPairs
namespace Go.Proofs.Ytjbihhchagcppaa
open Go.RowKit

/-- Block B holds these cells. -/
def Blq (w : World) (B : Nat) (cs : Array Value) (T : TypeId) : Prop := w.heap[B]? = some (.cells cs T (0, 0))
theorem Blq.kept {a b : World} {B : Nat} {cs : Array Value} {T : TypeId} {r : Option Nat} (h : Blq a B cs T) (hg : Gr a b r) (hr : r ≠ some B) : Blq b B cs T := (hg.block B (lt_of_block h) (fun e => hr e.symm)).trans h
theorem blq_new (w : World) (cs : Array Value) (T : TypeId) : Blq (w.alloc (.cells cs T)) w.heap.size cs T := heap_alloc_new _ _
theorem blq_set {a : World} {B : Nat} {T : TypeId} {x0 x1 y0 y1 : Value} (h : Blq a B #[y0, y1] T) : Blq ((a.setCell ⟨B, 0, none⟩ x0).setCell ⟨B, 1, none⟩ x1) B #[x0, x1] T := by
  have b0 := Go.Joins.block_setCell h (i := 0) x0
  have b1 := Go.Joins.block_setCell b0 (i := 1) x1
  unfold Blq
  simpa using b1
theorem cells2 {w : World} {B : Nat} {T : TypeId} {x0 x1 : Value} (h : Blq w B #[x0, x1] T) : w.cell? ⟨B, 0, none⟩ = some x0 ∧ w.cell? ⟨B, 1, none⟩ = some x1 ∧ w.frozen? ⟨B, 0, none⟩ = false ∧ w.frozen? ⟨B, 1, none⟩ = false := by
  have m0 := Go.Joins.cell_of_block h 0
  have m1 := Go.Joins.cell_of_block h 1
  simp only [List.getElem?_toArray, List.getElem?_cons_zero, List.getElem?_cons_succ] at m0 m1
  exact ⟨m0, m1, Go.Joins.unfrozen_of_block h 0, Go.Joins.unfrozen_of_block h 1⟩
theorem pcells_snoc (ps : List (Int × Int)) (q : Int × Int) : pcells (ps ++ [q]) = pcells ps ++ [.int .i64 q.1, .int .i64 q.2] := by simp [pcells]
theorem new_pair (w : World) (x y : Value) (t : TypeId) : ∀ j u, [x, y][j]? = some u → (w.alloc (.cells #[x, y] t)).cell? ((⟨w.heap.size, 0, none⟩ : Addr).add j) = some u := by
  intro j u hj
  match j, hj with
  | 0, hj => simp at hj; subst hj; simp [Addr.add]
  | 1, hj => simp at hj; subst hj; simp [Addr.add]
  | j + 2, hj => simp at hj
theorem two_int (x y : Int) : ∀ u ∈ [Value.int .i64 x, Value.int .i64 y], u.oneCell' = true := by
  intro u hu; simp at hu; rcases hu with rfl | rfl <;> rfl
/-- A small roof. -/
def SmallRf (q : Int × Int) : Prop := (1 ≤ q.1 ∧ q.1 ≤ 200) ∧ 0 ≤ q.2 ∧ q.2 ≤ 100
def RetRf (T : TypeId) (w : World) (C : Nat) (e : Ending) (w' : World) : Prop := ∃ r l : Int, e = .returned (.agg #[.int .i64 r, .int .i64 l]) ∧ SmallRf (r, l) ∧ Cur T w' C ∧ Gr w w' (some C)
theorem l03Roof_any {C : Nat} (w : World) (h : Cur 49 w C) : Calls Try.prog 18 #[.pointer (some ⟨C, 0, none⟩)] w (RetRf 49 w C) := by
  have hC := h.lt
  have HC := hid hC
  have HA := hid (h.on (gr_alloc (gr_refl w none) (.cells #[.int .i64 0, .int .i64 0] 27)))
  have B0 := hid (blq_new w #[.int .i64 0, .int .i64 0] 27)
  clear h hC
  go_enter Try.func18, Try.ntmps18
  go_wp2_with fail
  refine (l01Below_any _ _ HA.out (by omega) (by omega)).mono ?_
  rintro e w1 ⟨r, r1, r2, rfl, hc1, g1⟩
  have B1 := hid (B0.out.kept g1 (by have := HC.out; simp; omega))
  have G1 := hid (gr_same (gr_mono (gr_alloc (gr_refl w none) _)) g1)
  have hC1 : C < w1.heap.size := by have := gr_le g1; have := HC.out; simp at *; omega
  have HC1 := hid hC1
  have hi := hid (ints_lit w1 3 [50, 80, 90, 100, 0] (by unfold I64; intro x hx; simp at hx; omega) (by decide))
  clear g1 B0 HA
  go_wp2_with fail
  refine (l01PickInt_any _ (hc1.on (gr_alloc (gr_refl _ _) _)) hi.out (by simp) (by simp) (by have := HC1.out; simp [Value.ownBlock]; omega)).mono ?_
  rintro e w2 ⟨l, hl, rfl, hc2, g2⟩
  have hlb : 0 ≤ l ∧ l ≤ 100 := by simp at hl; omega
  have B2 := (B1.out.kept (gr_alloc (gr_refl w1 none) (.cells #[.int .i64 50, .int .i64 80, .int .i64 90, .int .i64 100, .int .i64 0] 3)) (by simp)).kept g2 (by have := HC.out; simp; omega)
  have G2 := hid (gr_same (gr_alloc G1.out _) g2)
  obtain ⟨_, _, f0, f1⟩ := cells2 B2
  obtain ⟨m0, m1, _, _⟩ := cells2 (blq_set (x0 := .int .i64 (1 + r)) (x1 := .int .i64 l) B2)
  have hCl := HC.out
  have HE := hid (And.intro (Cur.kept (r := some w.heap.size) (Cur.kept (r := some w.heap.size) hc2 (gr_set (p := ⟨w.heap.size, 0, none⟩) (gr_refl _ _) (.inl rfl) (.int .i64 (1 + r))) (by intro j e; cases e; exact hCl)) (gr_set (p := ⟨w.heap.size, 1, none⟩) (gr_refl _ _) (.inl rfl) (.int .i64 l)) (by intro j e; cases e; exact hCl)) (gr_set (gr_set G2.out (p := ⟨w.heap.size, 0, none⟩) (.inr (by simp)) (.int .i64 (1 + r))) (p := ⟨w.heap.size, 1, none⟩) (.inr (by simp)) (.int .i64 l)))
  clear hc1 hc2 g2 B1 G1 B2 G2 HC hl hi hC1 HC1
  go_wp2
  exact bodyPost_ret (v := .agg #[.int .i64 (1 + r), .int .i64 l]) (by simp [results, Try.results18, go_sem, m0, m1]) rfl ⟨_, _, rfl, ⟨by show 1 ≤ 1 + r ∧ 1 + r ≤ 200; omega, hlb⟩, HE.out⟩
def RetRf0 (w : World) (e : Ending) (w' : World) : Prop := ∃ r l : Int, e = .returned (.agg #[.int .i64 r, .int .i64 l]) ∧ SmallRf (r, l) ∧ Gr w w' none
theorem drawRoof_any {v : Value} {n : Nat} (w : World) (h : BytesN w v n) (hn : n ≤ 1048576) : Calls Try.prog 6 #[v] w (RetRf0 w) := by
  have B0 := hid (blq_new w #[.int .i64 0, .int .i64 0] 27)
  obtain ⟨a, cap, rfl, _, _, _⟩ := id h
  have HN := hid (bytesN_kept' h (gr_alloc (gr_refl w none) (.cells #[.int .i64 0, .int .i64 0] 27)) (by intro j e; cases e))
  clear h
  go_enter Try.func6, Try.ntmps6
  go_wp2_with fail
  refine (l01New_any _ HN.out hn).mono ?_
  rintro e w1 ⟨C, hC, rfl, hc, g1⟩
  go_wp2_with fail
  refine (l03Roof_any _ hc).mono ?_
  rintro e w2 ⟨r, l, rfl, hs, _, g2⟩
  simp only [World.size_alloc] at hC
  have z1 := gr_le g1
  simp only [World.size_alloc] at z1
  have B2 := (B0.out.kept g1 (by simp)).kept g2 (by simp; omega)
  obtain ⟨_, _, f0, f1⟩ := cells2 B2
  obtain ⟨m0, m1, _, _⟩ := cells2 (blq_set (x0 := .int .i64 r) (x1 := .int .i64 l) B2)
  have HE := hid (gr_set (gr_set (gr_trans (gr_then (gr_alloc (gr_refl w none) _) g1) g2 (fun j e => by cases e; exact .inr (by omega))) (p := ⟨w.heap.size, 0, none⟩) (.inr (by simp)) (.int .i64 r)) (p := ⟨w.heap.size, 1, none⟩) (.inr (by simp)) (.int .i64 l))
  have HS := hid hs
  clear HN B0 B2 g1 g2 hc hs
  go_wp2
  exact bodyPost_ret (v := .agg #[.int .i64 r, .int .i64 l]) (by simp [results, Try.results6, go_sem, m0, m1]) rfl ⟨_, _, rfl, HS.out, HE.out⟩
theorem info_roof : (Try.prog.info? 27).map (fun i => (i.zero, i.size, i.bytes)) = some (some (.agg #[.int .i64 0, .int .i64 0]), 2, 16) := by kernel_rfl
def RetRfs (E T : TypeId) (w : World) (C : Nat) (e : Ending) (w' : World) : Prop := ∃ u ps, e = .returned u ∧ (ps.length ≤ 4 ∧ ∀ q ∈ ps, SmallRf q) ∧ OwnP E w' w.heap.size u ps ∧ Cur T w' C ∧ Gr w w' (some C)
theorem i64_rf {ps : List (Int × Int)} (h : ∀ q ∈ ps, SmallRf q) : ∀ x ∈ ps, I64 x.1 ∧ I64 x.2 := fun x hx => by have := h x hx; unfold SmallRf at this; unfold I64; omega
theorem l03List_any {C : Nat} (w : World) (h : Cur 49 w C) : Calls Try.prog 16 #[.pointer (some ⟨C, 0, none⟩)] w (RetRfs 27 49 w C) := by
  have hC := h.lt
  obtain ⟨i0, hi, hz0, hz1, hz2⟩ := info_parts info_roof
  have hc0 : Hid (Cur 49 (w.alloc (.cells #[] 27)) C) := hid (h.on (gr_alloc (gr_refl _ _) _))
  go_enter Try.func16, Try.ntmps16
  go_wp2_with fail
  refine (l01Below_any _ _ hc0.out (by omega) (by omega)).mono ?_
  rintro e w1 ⟨m, m1, m2, rfl, hc1, g1⟩
  obtain ⟨m, rfl⟩ := Int.eq_ofNat_of_zero_le m1
  have g01 : Gr w w1 (some C) := gr_same (gr_mono (gr_alloc (gr_refl w none) _)) g1
  have hown1 : w1.ownsRow w.heap.size 27 2 (.slice (some ⟨w.heap.size, 0, none⟩) 0 0) 0 (pcells []) :=
    World.ownsRow.kept (World.ownsRow_made w #[] 0 (Nat.le_refl _) (by unfold maxLen; omega) rfl) g1 (.inr (by simp [Value.ownBlock]; omega))
  have HO1 := hid hown1
  clear hc0 hown1 g1
  go_wp2_with fail
  go_loopw [3, 5] (fun u i wr => ∃ k : Nat, ∃ ps : List (Int × Int), k ≤ m ∧ i = .int .i64 k ∧ ps.length = k ∧ (∀ q ∈ ps, SmallRf q) ∧ wr.ownsRow w.heap.size 27 2 u k (pcells ps) ∧ Cur 49 wr C ∧ Gr w wr (some C)) (fun _ i _ => m - (intOf i).toNat)
  case atStart => exact ⟨0, [], by omega, rfl, rfl, by simp, HO1.out, hc1, g01⟩
  case round =>
    obtain ⟨k, ps, hk, rfl, hlen, hsm, hown, hc, hg⟩ := hrel
    have HL := hid hlen
    have HS := hid hsm
    clear hlen hsm HO1 hc1 g01
    by_cases hlt : k < m
    · have hsz := gr_le hg
      go_wp2_with fail
      refine (l03Roof_any _ hc).mono ?_
      rintro e w3 ⟨r, l, rfl, hs, hc3, g3⟩
      have hown3 := hown.kept g3 (by cases hu : u3.ownBlock <;> simp; intro e; have := hown.lt _ hu; omega)
      have g13 := gr_same hg g3
      have hsz3 := gr_le g13
      have hsz' : w.heap.size ≤ w3.heap.size + 2 := by omega
      have HS3 := hid hs
      clear hc hown g3 hg hsz hs
      go_wp2_with (at_builtin; refine wpList_append_own _ rfl _ _ 24 rfl w.heap.size 27 i0 (.agg #[.int .i64 0, .int .i64 0]) 2 16 Try.underlying24 hi hz0 hz1 hz2 rfl (by decide) _ _ _ rfl ((hown3.alloc _).alloc _) ⟨w3.heap.size + 1, 0, none⟩ 1 1 [.int .i64 r, .int .i64 l] rfl rfl (by have := new_pair (w3.alloc (.cells #[.int .i64 r, .int .i64 l] 27)) (.int .i64 r) (.int .i64 l) 27; simpa using this) (two_int _ _) (by unfold maxLen; omega) (by omega) (by simp; omega) ?_)
      intro v' w4 hown' hgrow _
      have hc4 := ((hc3.on (gr_alloc (gr_refl _ _) (.cells #[Value.int .i64 r, .int .i64 l] 27))).on (gr_alloc (gr_refl _ _) (.cells #[Value.int .i64 r, .int .i64 l] 27))).kept hgrow (fun j e => by have := hown3.lt j e; omega)
      have hg4 := gr_trans (gr_alloc (gr_alloc g13 (.cells #[Value.int .i64 r, .int .i64 l] 27)) (.cells #[Value.int .i64 r, .int .i64 l] 27)) hgrow (fun j e => .inr (hown3.lt j e).1)
      have HO := hid hown'
      clear hown' hgrow hown3 hc3 hsz' hsz3 g13
      go_wp2
      go_roundw
      case rel => exact ⟨k + 1, ps ++ [(r, l)], by omega, by go_num, by simp [HL.out], by
        intro y hy
        rcases List.mem_append.1 hy with h1 | h1
        · exact HS.out y h1
        · simp at h1; subst h1; exact HS3.out, by rw [pcells_snoc]; exact HO.out, hc4, hg4⟩
      case measure => simp [intOf]; omega
    · have hkl : k = m := by omega
      have HK := hid hkl
      clear hkl
      go_wp2
      go_ret
      refine ⟨_, ps, rfl, ⟨by rw [HL.out]; omega, HS.out⟩, ⟨i64_rf HS.out, by rw [HL.out]; exact hown⟩, hc, hg⟩
def RetRfs0 (E : TypeId) (w : World) (e : Ending) (w' : World) : Prop := ∃ u ps, e = .returned u ∧ (ps.length ≤ 4 ∧ ∀ q ∈ ps, SmallRf q) ∧ OwnP E w' w.heap.size u ps ∧ Gr w w' none
theorem OwnP.mono' {E : TypeId} {w : World} {B B' : Nat} {v : Value} {ps : List (Int × Int)} (h : OwnP E w B v ps) (hB : B' ≤ B) : OwnP E w B' v ps := by
  refine ⟨h.1, h.2.1, ?_⟩
  rcases h.2.2 with h0 | ⟨g, cap, cur, e, hb, r⟩
  · exact .inl h0
  · exact .inr ⟨g, cap, cur, e, Nat.le_trans hB hb, r⟩
theorem drawRoofs_any {v : Value} {n : Nat} (w : World) (h : BytesN w v n) (hn : n ≤ 1048576) : Calls Try.prog 5 #[v] w (RetRfs0 27 w) := by
  go_enter Try.func5, Try.ntmps5
  go_wp2_with fail
  refine (l01New_any _ h hn).mono ?_
  rintro e w1 ⟨C, hC, rfl, hc, g1⟩
  go_wp2_with fail
  refine (l03List_any _ hc).mono ?_
  rintro e w2 ⟨u, xs, rfl, hs, ho, _, g2⟩
  go_wp2
  go_ret
  exact ⟨u, xs, rfl, hs, ho.mono' (gr_le g1), gr_trans g1 g2 (fun j e => by cases e; exact .inr hC)⟩
end Go.Proofs.Ytjbihhchagcppaa
