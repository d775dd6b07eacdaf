/- What a roof catches day by day. -/
import Derived.Test.YtjbihhchagcppaaRoof1
import Derived.Test.YtjbihhchagcppaaRain1
import Derived.Test.YtjbihhchagcppaaSlc
import Derived.Deep.RegionHeld3
import Derived.Deep.AppendLies
namespace Go.Proofs.Ytjbihhchagcppaa
open Go.RowKit

theorem keepR3 {wr a b : World} {row : Option Nat} {p q r : Addr} {x y z : Value} (hp : row ≠ some p.block) (hq : row ≠ some q.block) (hr : row ≠ some r.block)
    (h : a.cell? p = some x ∧ a.cell? q = some y ∧ a.cell? r = some z ∧ Gr wr a row) (hg : Gr a b row) : b.cell? p = some x ∧ b.cell? q = some y ∧ b.cell? r = some z ∧ Gr wr b row :=
  ⟨World.grownBy.cell hg h.1 (Ne.symm hp), World.grownBy.cell hg h.2.1 (Ne.symm hq), World.grownBy.cell hg h.2.2.1 (Ne.symm hr), gr_same h.2.2.2 hg⟩
theorem made1 (w : World) (o : Obj) (E : TypeId) : ((w.alloc o).alloc (.cells #[] E)).ownsRow (w.heap.size + 1) E 1 (.slice (some ⟨w.heap.size + 1, 0, none⟩) 0 0) 0 [] := by
  have h := World.ownsRow_made (base := w.heap.size + 1) (e := E) (size := 1) (w.alloc o) #[] 0 (by simp) (by unfold maxLen; omega) rfl
  simpa using h
/-- What the roof catches on the first k days. -/
def caught (a p : Int) (xs : List Int) (k : Nat) : List Int := (List.range k).map fun i => catchV a p (gi xs i)
@[simp] theorem caught_length (a p : Int) (xs : List Int) (k : Nat) : (caught a p xs k).length = k := by simp [caught]
theorem caught_succ (a p : Int) (xs : List Int) (k : Nat) : caught a p xs (k + 1) = caught a p xs k ++ [catchV a p (gi xs k)] := by simp [caught, List.range_succ]
theorem gi_caught {a p : Int} {xs : List Int} {k i : Nat} (h : i < k) : gi (caught a p xs k) i = catchV a p (gi xs i) := by simp [gi, caught, List.getD, h]
theorem catchV_i64 (a p r : Int) : I64 (catchV a p r) := by
  unfold catchV I64
  split
  · rename_i h
    simp only [Bool.and_eq_true] at h
    have := catch_bd h.1 h.2
    omega
  · omega
theorem caught_i64 (a p : Int) (xs : List Int) (k : Nat) : ∀ x ∈ caught a p xs k, I64 x := by
  intro x hx
  simp only [caught, List.mem_map, List.mem_range] at hx
  obtain ⟨i, hi, rfl⟩ := hx
  exact catchV_i64 _ _ _
def caughtL (a p : Int) (xs : List Int) : List Int := if roofB a p && rainB xs then caught a p xs xs.length else []
theorem catchDays_any {v : Value} {xs : List Int} (a p : Int) (w : World) (h : Ints w v xs) :
    Calls Try.prog 11 #[.agg #[.int .i64 a, .int .i64 p], v] w (RetI 3 w (caughtL a p xs)) := by
  unfold caughtL
  have H := hid h
  obtain ⟨_, ad, cap, rfl, hcap, hmax, hat⟩ := h
  unfold maxLen at hmax
  cases hb : roofB a p
  · clear hat
    go_enter Try.func11, Try.ntmps11
    go_wp2_with fail
    refine (roofOk_any _ _ _).mono ?_
    rintro e w1 ⟨rfl, g1'⟩
    have g1 := g1'
    clear g1'
    have c1 := gr_cell g1
    go_wp2
    go_ret
    exact ⟨_, rfl, ⟨by simp, World.ownsRow_nil _ _ _ _⟩, (by repeat (first | (with_reducible exact gr_refl _ _) | (with_reducible assumption) | (with_reducible refine gr_drew ?_) | (with_reducible refine gr_drewN ?_ _) | (with_reducible refine gr_alloc ?_ _) | (with_reducible refine gr_set ?_ (.inr (by simp; done)) _) | (with_reducible refine gr_set ?_ (.inr (by simp; omega)) _) | (with_reducible refine gr_then ?_ (by with_reducible assumption))))⟩
  cases hr : rainB xs
  · clear hat
    go_enter Try.func11, Try.ntmps11
    go_wp2_with fail
    refine (roofOk_any _ _ _).mono ?_
    rintro e w1 ⟨rfl, g1'⟩
    have g1 := g1'
    clear g1'
    have c1 := gr_cell g1
    go_wp2_with (go_at_call 21; refine (rainOk_any _ (H.out.on (gr_then (gr_alloc (gr_refl _ _) _) g1))).mono ?_; rintro e w' ⟨rfl, rfl⟩)
    go_ret
    exact ⟨_, rfl, ⟨by simp, World.ownsRow_nil _ _ _ _⟩, (by repeat (first | (with_reducible exact gr_refl _ _) | (with_reducible assumption) | (with_reducible refine gr_drew ?_) | (with_reducible refine gr_drewN ?_ _) | (with_reducible refine gr_alloc ?_ _) | (with_reducible refine gr_set ?_ (.inr (by simp; done)) _) | (with_reducible refine gr_set ?_ (.inr (by simp; omega)) _) | (with_reducible refine gr_then ?_ (by with_reducible assumption))))⟩
  · have hlen := rainB_len hr
    obtain ⟨i0, hi, hz0, hz1, hz2⟩ := info_parts info_int
    go_enter Try.func11, Try.ntmps11
    go_wp2_with fail
    refine (roofOk_any _ _ _).mono ?_
    rintro e w1 ⟨rfl, g1'⟩
    have g1 := g1'
    clear g1'
    have c1 := gr_cell g1
    have g1w := gr_then (gr_alloc (gr_refl w none) _) g1
    have k1 := (c1 w.heap.size 0 (by simp)).trans (by simp [go_sem] : _ = some (Value.int .i64 a))
    have k2 := (c1 w.heap.size 1 (by simp)).trans (by simp [go_sem] : _ = some (Value.int .i64 p))
    have hsz1 := gr_le g1
    simp only [World.size_alloc] at hsz1
    go_wp2_with (go_at_call 21; refine (rainOk_any _ (H.out.on g1w)).mono ?_; rintro e w' ⟨rfl, rfl⟩)
    clear c1 g1
    go_loopw [5, 18] (fun u i wr => ∃ k : Nat, k ≤ xs.length ∧ i = .int .i64 k ∧ wr.ownsRow (w.heap.size + 1) 3 1 u k ((caught a p xs k).map (Value.int .i64)) ∧ Gr w wr none ∧ wr.cell? ⟨w.heap.size, 0, none⟩ = some (.int .i64 a) ∧ wr.cell? ⟨w.heap.size, 1, none⟩ = some (.int .i64 p) ∧ w.heap.size < wr.heap.size) (fun _ i _ => xs.length - (intOf i).toNat)
    case atStart => exact ⟨0, Nat.zero_le _, rfl, World.ownsRow_nil _ _ _ _, g1w, k1, k2, by omega⟩
    case round =>
      obtain ⟨k, hk, rfl, hown, hg, k1, k2, hsz⟩ := hrel
      by_cases hlt : k < xs.length
      · obtain ⟨b, off, rfl, hc⟩ : ∃ b off, ad = some ⟨b, off, none⟩ ∧ IntsAt w b off xs := by
          rcases hat with h0 | h0
          · subst h0; simp at hlt
          · exact h0
        have hcell := hc.kept hg (by simp) k hlt
        clear hat hc
        have E : Hid (caught a p xs (k + 1) = caught a p xs k ++ [catchV a p (gi xs k)]) := caught_succ _ _ _ _
        go_wp2_with fail
        refine (catch_any _ _ _ _).mono ?_
        rintro e w2 ⟨rfl, g2⟩
        have hown2 := hown.kept g2 (by cases u5.ownBlock <;> simp)
        have k1' := (gr_cell g2 w.heap.size 0 hsz).trans k1
        have k2' := (gr_cell g2 w.heap.size 1 hsz).trans k2
        have hsz2 := gr_le g2
        have hg2 := gr_then hg g2
        have hsz' : w.heap.size + 1 ≤ w2.heap.size + 1 := by omega
        clear hcell hown k1 k2 g2 hg
        generalize hX : catchV a p (gi xs k) = X at *
        clear hX
        go_wp2_with (at_builtin; refine wpList_append_own _ rfl _ _ 32 rfl (w.heap.size + 1) 3 i0 (.int .i64 0) 1 8 Try.underlying32 hi hz0 hz1 hz2 rfl (by decide) _ _ _ rfl (hown2.alloc _) ⟨w2.heap.size, 0, none⟩ 1 1 [.int .i64 X] rfl rfl (new_one _ _ _) (one_int _) (by unfold maxLen; omega) (by omega) (by simpa using hsz') ?_)
        intro v' w3 hown' hgrow _
        have hg3 := gr_append hg2 hown2 (by omega) hgrow
        have hne : u5.ownBlock ≠ some w.heap.size := fun e => by have := hown2.lt _ e; omega
        have k1'' : w3.cell? ⟨w.heap.size, 0, none⟩ = some (.int .i64 a) := World.grownBy.cell (a := ⟨w.heap.size, 0, none⟩) hgrow (by rw [World.cell?_alloc_lt _ _ _ (by simp; omega)]; exact k1') (Ne.symm hne)
        have k2'' : w3.cell? ⟨w.heap.size, 1, none⟩ = some (.int .i64 p) := World.grownBy.cell (a := ⟨w.heap.size, 1, none⟩) hgrow (by rw [World.cell?_alloc_lt _ _ _ (by simp; omega)]; exact k2') (Ne.symm hne)
        have hsz3 : w.heap.size < w3.heap.size := by have := hgrow.size; simp at this; omega
        have HO := hid hown'
        clear hown' hgrow hown2 hsz hsz' hsz2 hne k1' k2' hg2
        go_wp2
        go_roundw
        case rel => exact ⟨k + 1, by omega, by go_num, by rw [E.out, List.map_append]; exact HO.out, hg3, k1'', k2'', hsz3⟩
        case measure => simp [intOf]; omega
      · have hkl : k = xs.length := by omega
        subst hkl
        clear hat
        go_wp2
        go_ret
        exact ⟨_, rfl, OwnI.mono (B := w.heap.size + 1) ⟨caught_i64 _ _ _ _, by rw [caught_length]; exact hown⟩ (Nat.le_succ _), hg⟩
end Go.Proofs.Ytjbihhchagcppaa
