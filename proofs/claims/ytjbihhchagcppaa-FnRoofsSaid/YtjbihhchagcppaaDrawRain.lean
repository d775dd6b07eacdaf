/- Drawn rain is in range. -/
import Derived.Test.YtjbihhchagcppaaDraw
import Derived.Test.YtjbihhchagcppaaSlc
namespace Go.Proofs.Ytjbihhchagcppaa
open Go.RowKit

/-- Small rain. -/
def Small (xs : List Int) : Prop := 1 ≤ xs.length ∧ xs.length ≤ 20 ∧ ∀ x ∈ xs, 0 ≤ x ∧ x ≤ 39
def RetRain (E T : TypeId) (w : World) (C : Nat) (e : Ending) (w' : World) : Prop := ∃ u xs, e = .returned u ∧ Small xs ∧ OwnI E w' w.heap.size u xs ∧ Cur T w' C ∧ Gr w w' (some C)
theorem i64_small {xs : List Int} (h : ∀ x ∈ xs, 0 ≤ x ∧ x ≤ 39) : ∀ x ∈ xs, I64 x := fun x hx => by have := h x hx; unfold I64; omega
theorem l02Rain_any {C : Nat} (w : World) (h : Cur 49 w C) : Calls Try.prog 20 #[.pointer (some ⟨C, 0, none⟩)] w (RetRain 3 49 w C) := by
  have hC := h.lt
  obtain ⟨i0, hi, hz0, hz1, hz2⟩ := info_parts info_int
  have hc0 : Hid (Cur 49 (w.alloc (.cells #[] 3)) C) := hid (h.on (gr_alloc (gr_refl _ _) _))
  go_enter Try.func20, Try.ntmps20
  go_wp2_with fail
  refine (l01Below_any _ _ hc0.out (by omega) (by omega)).mono ?_
  rintro e w1 ⟨m, m1, m2, rfl, hc1, g1⟩
  obtain ⟨m, rfl⟩ := Int.eq_ofNat_of_zero_le m1
  have g01 : Gr w w1 (some C) := gr_same (gr_mono (gr_alloc (gr_refl w none) _)) g1
  have hown1 : w1.ownsRow w.heap.size 3 1 (.slice (some ⟨w.heap.size, 0, none⟩) 0 0) 0 (([] : List Int).map (Value.int .i64)) :=
    World.ownsRow.kept (World.ownsRow_made w #[] 0 (Nat.le_refl _) (by unfold maxLen; omega) rfl) g1 (.inr (by simp [Value.ownBlock]; omega))
  have HO1 := hid hown1
  clear hc0 hown1 g1
  go_wp2_with fail
  go_loopw [3, 5] (fun u i wr => ∃ k : Nat, ∃ xs : List Int, k ≤ m + 1 ∧ i = .int .i64 k ∧ xs.length = k ∧ (∀ x ∈ xs, 0 ≤ x ∧ x ≤ 39) ∧ wr.ownsRow w.heap.size 3 1 u k (xs.map (Value.int .i64)) ∧ Cur 49 wr C ∧ Gr w wr (some C)) (fun _ i _ => m + 1 - (intOf i).toNat)
  case atStart => exact ⟨0, [], by omega, rfl, rfl, by simp, HO1.out, hc1, g01⟩
  case round =>
    obtain ⟨k, xs, hk, rfl, hlen, hsm, hown, hc, hg⟩ := hrel
    have HL := hid hlen
    have HS := hid hsm
    clear hlen hsm HO1 hc1 g01
    by_cases hlt : k < m + 1
    · have hlt' : (k : Int) < 1 + m := by omega
      have hsz := gr_le hg
      go_wp2_with fail
      refine (l01Below_any _ _ hc (by omega) (by omega)).mono ?_
      rintro e w2 ⟨x, x1, x2, rfl, hc2, g2⟩
      have hown2 := hown.kept g2 (by cases hu : u3.ownBlock <;> simp; intro e; have := hown.lt _ hu; omega)
      have g12 := gr_same hg g2
      clear hc hown g2
      go_wp2_with fail
      refine (l01Once_any _ _ hc2 (by omega) (by omega)).mono ?_
      rintro e w3 ⟨q, rfl, hc3, g3⟩
      have hown3 := hown2.kept g3 (by cases hu : u3.ownBlock <;> simp; intro e; have := hown2.lt _ hu; omega)
      have g13 := gr_same g12 g3
      have hsz3 := gr_le g13
      have hsz' : w.heap.size ≤ w3.heap.size + 1 := by omega
      clear hc2 hown2 g3 g12 hg hsz
      cases q
      · go_wp2_with (at_builtin; refine wpList_append_own _ rfl _ _ 32 rfl w.heap.size 3 i0 (.int .i64 0) 1 8 Try.underlying32 hi hz0 hz1 hz2 rfl (by decide) _ _ _ rfl (hown3.alloc _) ⟨w3.heap.size, 0, none⟩ 1 1 [.int .i64 x] rfl rfl (new_one _ _ _) (one_int _) (by unfold maxLen; omega) (by omega) (by simpa using hsz') ?_)
        intro v' w4 hown' hgrow _
        have hc4 := (hc3.on (gr_alloc (gr_refl _ _) (.cells #[Value.int .i64 x] 3))).kept hgrow (fun j e => by have := hown3.lt j e; omega)
        have hg4 := gr_trans (gr_alloc g13 (.cells #[Value.int .i64 x] 3)) hgrow (fun j e => .inr (hown3.lt j e).1)
        have HO := hid hown'
        clear hown' hgrow hown3 hc3 hsz' hsz3 g13
        go_wp2
        go_roundw
        case rel => exact ⟨k + 1, xs ++ [x], by omega, by go_num, by simp [HL.out], by
          intro y hy
          rcases List.mem_append.1 hy with h1 | h1
          · exact HS.out y h1
          · simp at h1; subst h1; omega, by rw [List.map_append]; exact HO.out, hc4, hg4⟩
        case measure => simp [intOf]; omega
      · go_wp2_with (at_builtin; refine wpList_append_own _ rfl _ _ 32 rfl w.heap.size 3 i0 (.int .i64 0) 1 8 Try.underlying32 hi hz0 hz1 hz2 rfl (by decide) _ _ _ rfl (hown3.alloc _) ⟨w3.heap.size, 0, none⟩ 1 1 [.int .i64 0] rfl rfl (new_one _ _ _) (one_int _) (by unfold maxLen; omega) (by omega) (by simpa using hsz') ?_)
        intro v' w4 hown' hgrow _
        have hc4 := (hc3.on (gr_alloc (gr_refl _ _) (.cells #[Value.int .i64 0] 3))).kept hgrow (fun j e => by have := hown3.lt j e; omega)
        have hg4 := gr_trans (gr_alloc g13 (.cells #[Value.int .i64 0] 3)) hgrow (fun j e => .inr (hown3.lt j e).1)
        have HO := hid hown'
        clear hown' hgrow hown3 hc3 hsz' hsz3 g13
        go_wp2
        go_roundw
        case rel => exact ⟨k + 1, xs ++ [0], by omega, by go_num, by simp [HL.out], by
          intro y hy
          rcases List.mem_append.1 hy with h1 | h1
          · exact HS.out y h1
          · simp at h1; subst h1; omega, by rw [List.map_append]; exact HO.out, hc4, hg4⟩
        case measure => simp [intOf]; omega
    · have hkl : k = m + 1 := by omega
      have HK := hid hkl
      clear hkl
      go_wp2
      go_ret
      refine ⟨_, xs, rfl, ⟨by rw [HL.out]; omega, by rw [HL.out]; omega, HS.out⟩, ⟨i64_small HS.out, by rw [HL.out]; exact hown⟩, hc, hg⟩
def RetRain0 (E : TypeId) (w : World) (e : Ending) (w' : World) : Prop := ∃ u xs, e = .returned u ∧ Small xs ∧ OwnI E w' w.heap.size u xs ∧ Gr w w' none
theorem drawRain_any {v : Value} {n : Nat} (w : World) (h : BytesN w v n) (hn : n ≤ 1048576) : Calls Try.prog 10 #[v] w (RetRain0 3 w) := by
  go_enter Try.func10, Try.ntmps10
  go_wp2_with fail
  refine (l01New_any _ h hn).mono ?_
  rintro e w1 ⟨C, hC, rfl, hc, g1⟩
  go_wp2_with fail
  refine (l02Rain_any _ hc).mono ?_
  rintro e w2 ⟨u, xs, rfl, hs, ho, _, g2⟩
  go_wp2
  go_ret
  exact ⟨u, xs, rfl, hs, ho.mono (gr_le g1), gr_trans g1 g2 (fun j e => by cases e; exact .inr hC)⟩
end Go.Proofs.Ytjbihhchagcppaa
