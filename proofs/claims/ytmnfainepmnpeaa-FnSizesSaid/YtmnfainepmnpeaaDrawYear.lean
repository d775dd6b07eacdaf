/- A drawn year is in order. -/
import Derived.Test.YtmnfainepmnpeaaDraw
import Derived.Test.YtmnfainepmnpeaaYWith2
namespace Go.Proofs.Ytmnfainepmnpeaa
open Go.RowKit

/-- A small year. -/
def SmallY (r s n : Int) (xs : List Int) : Prop := (1 ≤ r ∧ r ≤ 250) ∧ (0 ≤ s ∧ s ≤ r) ∧ (0 ≤ n ∧ n ≤ 39) ∧ (1 ≤ xs.length ∧ xs.length ≤ 12) ∧ ∀ x ∈ xs, 0 ≤ x ∧ x ≤ 99
theorem small_year {r s n : Int} {xs : List Int} (h : SmallY r s n xs) : yearB r s xs n = true := by
  obtain ⟨h1, h2, h3, h4, h5⟩ := h
  exact yearB_mk (by omega) h2 (by omega) (fun i hi => by have := h5 _ (gi_mem hi); omega) (by omega)
def RetDY (I T : TypeId) (w : World) (C : Nat) (e : Ending) (w' : World) : Prop := ∃ r s n u xs, e = .returned (.agg #[.int .i64 r, .int .i64 s, u, .int .i64 n]) ∧ SmallY r s n xs ∧ OwnI I w' w.heap.size u xs ∧ Cur T w' C ∧ Gr w w' (some C)
theorem i64_99 {xs : List Int} (h : ∀ x ∈ xs, 0 ≤ x ∧ x ≤ 99) : ∀ x ∈ xs, I64 x := fun x hx => by have := h x hx; unfold I64; omega
theorem blk_s1 {a : World} {B : Nat} {T : TypeId} {x0 x1 x2 x3 : Value} (h : Blk a B #[x0, x1, x2, x3] T) (y : Value) : Blk (a.setCell ⟨B, 1, none⟩ y) B #[x0, y, x2, x3] T := by
  have b := Go.Joins.block_setCell h (i := 1) y
  unfold Blk
  simpa using b
theorem blk_s2 {a : World} {B : Nat} {T : TypeId} {x0 x1 x2 x3 : Value} (h : Blk a B #[x0, x1, x2, x3] T) (y : Value) : Blk (a.setCell ⟨B, 2, none⟩ y) B #[x0, x1, y, x3] T := by
  have b := Go.Joins.block_setCell h (i := 2) y
  unfold Blk
  simpa using b
theorem own_setb {w : World} {B B' sz n : Nat} {E U : TypeId} {v : Value} {xs : List Value} {cs : Array Value} (h : w.ownsRow B E sz v n xs) (hb : Blk w B' cs U) (hU : U ≠ E) (o : Nat) (u : Value) : (w.setCell ⟨B', o, none⟩ u).ownsRow B E sz v n xs :=
  h.kept (row := some B') (gr_set (p := ⟨B', o, none⟩) (gr_refl w (some B')) (.inl rfl) u) (by
    have hne := own_ne_blk h hb hU
    cases hv : v.ownBlock with
    | none => exact .inl rfl
    | some k => right; intro e; cases e; exact hne hv)
theorem own_setb4 {w : World} {B B' sz n : Nat} {E U : TypeId} {v y0 y1 y2 y3 : Value} {xs : List Value} (h : w.ownsRow B E sz v n xs) (hb : Blk w B' #[y0, y1, y2, y3] U) (hU : U ≠ E) (x0 x1 x2 x3 : Value) : ((((w.setCell ⟨B', 0, none⟩ x0).setCell ⟨B', 1, none⟩ x1).setCell ⟨B', 2, none⟩ x2).setCell ⟨B', 3, none⟩ x3).ownsRow B E sz v n xs := by
  have b0 := Go.Joins.block_setCell hb (i := 0) x0
  have b1 := Go.Joins.block_setCell b0 (i := 1) x1
  have b2 := Go.Joins.block_setCell b1 (i := 2) x2
  exact own_setb (own_setb (own_setb (own_setb h hb hU 0 x0) b0 hU 1 x1) b1 hU 2 x2) b2 hU 3 x3
theorem gr4' {w a : World} {C : Option Nat} {B : Nat} {x0 x1 x2 x3 : Value} (h : Gr w a C) (hB : w.heap.size ≤ B) : Gr w ((((a.setCell ⟨B, 0, none⟩ x0).setCell ⟨B, 1, none⟩ x1).setCell ⟨B, 2, none⟩ x2).setCell ⟨B, 3, none⟩ x3) C :=
  gr_set (gr_set (gr_set (gr_set h (.inr hB) _) (.inr hB) _) (.inr hB) _) (.inr hB) _
theorem own_cur {w w' : World} {B C sz n : Nat} {E : TypeId} {v : Value} {xs : List Value} (h : w.ownsRow B E sz v n xs) (hg : Gr w w' (some C)) (hC : C < B) : w'.ownsRow B E sz v n xs :=
  h.kept hg (by
    cases hv : v.ownBlock with
    | none => exact .inl rfl
    | some k => right; intro e; cases e; have := (h.lt _ hv).1; omega)
theorem cur_set {T : TypeId} {w : World} {C B o : Nat} (h : Cur T w C) (hB : C < B) (u : Value) : Cur T (w.setCell ⟨B, o, none⟩ u) C := h.kept (r := some B) (gr_set (gr_refl _ _) (.inl rfl) _) (by intro j e; cases e; exact hB)
set_option maxHeartbeats 1000000 in
theorem l06Year_any {C : Nat} (w : World) (h : Cur 63 w C) : Calls Try.prog 66 #[.pointer (some ⟨C, 0, none⟩)] w (RetDY 3 63 w C) := by
  have hC := h.lt
  have HC := hid hC
  obtain ⟨i0, hi, hz0, hz1, hz2⟩ := info_parts info_int
  have HA := hid (h.on (gr_alloc (gr_refl w none) (.cells #[.int .i64 0, .int .i64 0, .slice none 0 0, .int .i64 0] 27)))
  have BR0 := hid (blk_new w #[.int .i64 0, .int .i64 0, .slice none 0 0, .int .i64 0] 27)
  clear h hC
  go_enter Try.func66, Try.ntmps66
  go_wp2_with fail
  refine (l01Below_any _ _ HA.out (by omega) (by omega)).mono ?_
  rintro e w1 ⟨r, r1, r2, rfl, hc1, g1⟩
  have BR1 := hid (BR0.out.kept g1 (by have := HC.out; simp; omega))
  have G1 := hid (gr_same (gr_mono (gr_alloc (gr_refl w none) _)) g1)
  clear g1
  go_wp2_with fail
  refine (l01Below_any _ _ hc1 (by omega) (by omega)).mono ?_
  rintro e w2 ⟨n, n1, n2, rfl, hc2, g2⟩
  have BR2 := hid (BR1.out.kept g2 (by have := HC.out; simp; omega))
  have G2 := hid (gr_same G1.out g2)
  have hz := gr_le G2.out
  have hw2 := hid (show w.heap.size < w2.heap.size from BR2.out.lt)
  have B2 := hid (blk_new w2 #[.int .i64 (1 + r), .int .i64 0, .slice none 0 0, .int .i64 n] 27)
  have HC2 := hid (hc2.on (gr_alloc (gr_refl w2 none) (.cells #[.int .i64 (1 + r), .int .i64 0, .slice none 0 0, .int .i64 n] 27)))
  have BR3 := hid (BR2.out.on (gr_alloc (gr_refl w2 none) (.cells #[.int .i64 (1 + r), .int .i64 0, .slice none 0 0, .int .i64 n] 27)))
  have G3 := hid (gr_alloc G2.out (.cells #[.int .i64 (1 + r), .int .i64 0, .slice none 0 0, .int .i64 n] 27))
  clear hc1 hc2 g2 BR0 BR1 BR2 G1 G2 HA
  go_wp2_with fail
  refine (l01Below_any _ _ HC2.out (by omega) (by omega)).mono ?_
  rintro e w3 ⟨s, s1, s2, rfl, hc3, g3⟩
  have hCw := HC.out
  have hw2' := hw2.out
  have B3 := hid (B2.out.kept g3 (by simp; omega))
  have BR4 := hid (BR3.out.kept g3 (by simp; omega))
  have G4 := hid (gr_same G3.out g3)
  have HC3 := hid hc3
  obtain ⟨q0, q1, q2, q3, p0, p1, p2, p3⟩ := cells4 B3.out
  clear g3 hc3 B2 BR3 G3 HC2
  go_wp2_with fail
  refine (l01Below_any _ _ (cur_set HC3.out (by omega) _) (by omega) (by omega)).mono ?_
  rintro e w4 ⟨m, m1, m2, rfl, hc4, g4⟩
  obtain ⟨m, rfl⟩ := Int.eq_ofNat_of_zero_le m1
  have BR5 := hid ((blk_set BR4.out (show w.heap.size ≠ w2.heap.size by omega) (o := 1) (u := .int .i64 s)).kept g4 (by simp; omega))
  have B5 := hid ((blk_s1 B3.out (.int .i64 s)).kept g4 (by simp; omega))
  have G5 := hid (gr_same (gr_set G4.out (p := ⟨w2.heap.size, 1, none⟩) (.inr (by simp; omega)) (.int .i64 s)) g4)
  have HC5 := hid hc4
  clear q0 q1 q2 q3 p0 p1 p2 p3 g4 hc4 B3 BR4 G4 HC3
  go_wp2_with fail
  go_loopw [5] (fun i wr => ∃ k : Nat, ∃ xs : List Int, ∃ u : Value, k ≤ m + 1 ∧ i = .int .i64 k ∧ xs.length = k ∧ (∀ x ∈ xs, 0 ≤ x ∧ x ≤ 99) ∧ wr.ownsRow w.heap.size 3 1 u k (xs.map (Value.int .i64)) ∧ Blk wr w2.heap.size #[.int .i64 (1 + r), .int .i64 s, u, .int .i64 n] 27 ∧ Blk wr w.heap.size #[.int .i64 0, .int .i64 0, .slice none 0 0, .int .i64 0] 27 ∧ Cur 63 wr C ∧ Gr w wr (some C)) (fun i _ => m + 1 - (intOf i).toNat)
  case atStart => exact ⟨0, [], .slice none 0 0, by omega, rfl, rfl, by simp, World.ownsRow_nil _ _ _ _, B5.out, BR5.out, HC5.out, G5.out⟩
  case round =>
    obtain ⟨k, xs, u, hk, rfl, hlen, hsm, hown, hB, hR, hc, hg⟩ := hrel
    have HL := hid hlen
    have HS := hid hsm
    have HB := hid hB
    have HR := hid hR
    have HO := hid hown
    have HG := hid hg
    have HCc := hid hc
    obtain ⟨ua, uc, rfl⟩ := sl_own hown
    clear hlen hsm BR5 B5 HC5 G5 hB hR hown hg hc
    by_cases hlt : k < m + 1
    · have hlt' : (k : Int) < 1 + m := by omega
      go_wp2_with fail
      refine (l01Below_any _ _ HCc.out (by omega) (by omega)).mono ?_
      rintro e w5 ⟨x, x1, x2, rfl, hc5, g5⟩
      have HB2 := hid (HB.out.kept g5 (by simp; omega))
      have HR2 := hid (HR.out.kept g5 (by simp; omega))
      have HO2 := hid (own_cur HO.out g5 (by omega))
      have HG2 := hid (gr_same HG.out g5)
      clear HB HR HO HG HCc g5
      go_wp2_with fail
      refine (l01Once_any _ _ hc5 (by omega) (by omega)).mono ?_
      rintro e w6 ⟨q, rfl, hc6, g6⟩
      have HB3 := hid (HB2.out.kept g6 (by simp; omega))
      have HR3 := hid (HR2.out.kept g6 (by simp; omega))
      have HO3 := hid (own_cur HO2.out g6 (by omega))
      have HG3 := hid (gr_same HG2.out g6)
      have HC3 := hid hc6
      have hz3 := gr_le HG3.out
      have hsz : w.heap.size ≤ w6.heap.size + 1 := by omega
      obtain ⟨q0, q1, q2, q3, -⟩ := cells4 HB3.out
      clear HB2 HR2 HO2 HG2 g6 hc5 hc6
      have HNx : Hid (∀ (v' : Value) (wm : World), wm.ownsRow w.heap.size 3 1 v' (k + 1) (xs.map (Value.int .i64) ++ [.int .i64 x]) → Gr (w6.alloc (.cells #[.int .i64 x] 3)) wm (Value.slice ua k uc).ownBlock → wm.ownsRow w.heap.size 3 1 v' (k + 1) ((xs ++ [x]).map (Value.int .i64)) ∧ Blk wm w2.heap.size #[.int .i64 (1 + r), .int .i64 s, .slice ua k uc, .int .i64 n] 27 ∧ Blk wm w.heap.size #[.int .i64 0, .int .i64 0, .slice none 0 0, .int .i64 0] 27 ∧ Cur 63 wm C ∧ Gr w wm (some C)) := fun v' wm h1 h2 => by
        have hlo : ∀ j, (Value.slice ua k uc).ownBlock = some j → w.heap.size ≤ j := fun j e => (HO3.out.lt j e).1
        refine ⟨by rw [List.map_append]; exact h1, (HB3.out.on (gr_alloc (gr_refl _ _) _)).kept h2 (own_ne_blk (HO3.out.alloc (.cells #[.int .i64 x] 3)) (HB3.out.on (gr_alloc (gr_refl _ _) _)) (by decide)), (HR3.out.on (gr_alloc (gr_refl _ _) _)).kept h2 (own_ne_blk (HO3.out.alloc (.cells #[.int .i64 x] 3)) (HR3.out.on (gr_alloc (gr_refl _ _) _)) (by decide)), (HC3.out.on (gr_alloc (gr_refl _ _) _)).kept h2 (fun j e => by have := hlo j e; omega), gr_trans (gr_alloc HG3.out _) h2 (fun j e => .inr (hlo j e))⟩
      have HN0 : Hid (∀ (v' : Value) (wm : World), wm.ownsRow w.heap.size 3 1 v' (k + 1) (xs.map (Value.int .i64) ++ [.int .i64 0]) → Gr (w6.alloc (.cells #[.int .i64 0] 3)) wm (Value.slice ua k uc).ownBlock → wm.ownsRow w.heap.size 3 1 v' (k + 1) ((xs ++ [0]).map (Value.int .i64)) ∧ Blk wm w2.heap.size #[.int .i64 (1 + r), .int .i64 s, .slice ua k uc, .int .i64 n] 27 ∧ Blk wm w.heap.size #[.int .i64 0, .int .i64 0, .slice none 0 0, .int .i64 0] 27 ∧ Cur 63 wm C ∧ Gr w wm (some C)) := fun v' wm h1 h2 => by
        have hlo : ∀ j, (Value.slice ua k uc).ownBlock = some j → w.heap.size ≤ j := fun j e => (HO3.out.lt j e).1
        refine ⟨by rw [List.map_append]; exact h1, (HB3.out.on (gr_alloc (gr_refl _ _) _)).kept h2 (own_ne_blk (HO3.out.alloc (.cells #[.int .i64 0] 3)) (HB3.out.on (gr_alloc (gr_refl _ _) _)) (by decide)), (HR3.out.on (gr_alloc (gr_refl _ _) _)).kept h2 (own_ne_blk (HO3.out.alloc (.cells #[.int .i64 0] 3)) (HR3.out.on (gr_alloc (gr_refl _ _) _)) (by decide)), (HC3.out.on (gr_alloc (gr_refl _ _) _)).kept h2 (fun j e => by have := hlo j e; omega), gr_trans (gr_alloc HG3.out _) h2 (fun j e => .inr (hlo j e))⟩
      cases q
      · go_wp2_with (at_builtin; refine wpList_append_own _ rfl _ _ 22 rfl w.heap.size 3 i0 (.int .i64 0) 1 8 Try.underlying22 hi hz0 hz1 hz2 rfl (by decide) _ _ _ rfl (HO3.out.alloc _) ⟨w6.heap.size, 0, none⟩ 1 1 [.int .i64 x] rfl rfl (new_one _ _ _) (one_int _) (by unfold maxLen; omega) (by omega) (by simpa using hsz) ?_)
        intro v' wm hown' hgrow _
        obtain ⟨va', vc', rfl⟩ := sl_own hown'
        obtain ⟨hO, hB, hR, hc, hg⟩ := HNx.out _ _ hown' hgrow
        obtain ⟨n0, n1', n2', n3, f0, f1, f2, f3⟩ := cells4 hB
        have HE := hid (And.intro (own_setb hO hB (by decide) 2 (.slice va' (k + 1) vc')) (And.intro (blk_s2 hB (.slice va' (k + 1) vc')) (And.intro (blk_set hR (show w.heap.size ≠ w2.heap.size by omega) (o := 2) (u := .slice va' (k + 1) vc')) (And.intro (cur_set hc (show C < w2.heap.size by omega) (.slice va' (k + 1) vc') (o := 2)) (gr_set hg (p := ⟨w2.heap.size, 2, none⟩) (.inr (by simp; omega)) (.slice va' (k + 1) vc'))))))
        clear hO hB hR hc hg hown' hgrow HNx HN0 HB3 HR3 HO3 HG3 HC3
        go_wp2
        go_roundw
        case rel => exact ⟨k + 1, xs ++ [x], _, by omega, by go_num, by simp [HL.out], by
          intro y hy
          rcases List.mem_append.1 hy with h1 | h1
          · exact HS.out y h1
          · simp at h1; subst h1; omega, HE.out⟩
        case measure => simp [intOf]; omega
      · go_wp2_with (at_builtin; refine wpList_append_own _ rfl _ _ 22 rfl w.heap.size 3 i0 (.int .i64 0) 1 8 Try.underlying22 hi hz0 hz1 hz2 rfl (by decide) _ _ _ rfl (HO3.out.alloc _) ⟨w6.heap.size, 0, none⟩ 1 1 [.int .i64 0] rfl rfl (new_one _ _ _) (one_int _) (by unfold maxLen; omega) (by omega) (by simpa using hsz) ?_)
        intro v' wm hown' hgrow _
        obtain ⟨va', vc', rfl⟩ := sl_own hown'
        obtain ⟨hO, hB, hR, hc, hg⟩ := HN0.out _ _ hown' hgrow
        obtain ⟨n0, n1', n2', n3, f0, f1, f2, f3⟩ := cells4 hB
        have HE := hid (And.intro (own_setb hO hB (by decide) 2 (.slice va' (k + 1) vc')) (And.intro (blk_s2 hB (.slice va' (k + 1) vc')) (And.intro (blk_set hR (show w.heap.size ≠ w2.heap.size by omega) (o := 2) (u := .slice va' (k + 1) vc')) (And.intro (cur_set hc (show C < w2.heap.size by omega) (.slice va' (k + 1) vc') (o := 2)) (gr_set hg (p := ⟨w2.heap.size, 2, none⟩) (.inr (by simp; omega)) (.slice va' (k + 1) vc'))))))
        clear hO hB hR hc hg hown' hgrow HNx HN0 HB3 HR3 HO3 HG3 HC3
        go_wp2
        go_roundw
        case rel => exact ⟨k + 1, xs ++ [0], _, by omega, by go_num, by simp [HL.out], by
          intro y hy
          rcases List.mem_append.1 hy with h1 | h1
          · exact HS.out y h1
          · simp at h1; subst h1; omega, HE.out⟩
        case measure => simp [intOf]; omega
    · have hkl : k = m + 1 := by omega
      have HK := hid hkl
      obtain ⟨q0, q1, q2, q3, -⟩ := cells4 HB.out
      obtain ⟨_, _, _, _, f0, f1, f2, f3⟩ := cells4 HR.out
      have HE := hid (And.intro (show OwnI 3 _ w.heap.size (.slice ua k uc) xs from ⟨i64_99 HS.out, by rw [HL.out]; exact own_setb4 HO.out HR.out (by decide) (.int .i64 (1 + r)) (.int .i64 s) (.slice ua k uc) (.int .i64 n)⟩) (And.intro (cur_set (cur_set (cur_set (cur_set HCc.out hCw (o := 0) (.int .i64 (1 + r))) hCw (o := 1) (.int .i64 s)) hCw (o := 2) (.slice ua k uc)) hCw (o := 3) (.int .i64 n)) (gr4' (x0 := .int .i64 (1 + r)) (x1 := .int .i64 s) (x2 := .slice ua k uc) (x3 := .int .i64 n) HG.out (Nat.le_refl w.heap.size))))
      obtain ⟨m0, m1, m2, m3, -⟩ := cells4 (blk4_set (x0 := .int .i64 (1 + r)) (x1 := .int .i64 s) (x2 := .slice ua k uc) (x3 := .int .i64 n) HR.out)
      clear hkl HB HO HG HCc HR
      go_wp2
      exact bodyPost_ret (v := .agg #[.int .i64 (1 + r), .int .i64 s, .slice ua k uc, .int .i64 n]) (by simp [results, Try.results66, go_sem, m0, m1, m2, m3]) rfl ⟨_, _, _, _, xs, rfl, ⟨by omega, by omega, by omega, by have := HL.out; have := HK.out; omega, HS.out⟩, HE.out⟩
def RetDY0 (I : TypeId) (w : World) (e : Ending) (w' : World) : Prop := ∃ r s n u xs, e = .returned (.agg #[.int .i64 r, .int .i64 s, u, .int .i64 n]) ∧ SmallY r s n xs ∧ OwnI I w' w.heap.size u xs ∧ Gr w w' none
theorem drawYear_any {v : Value} {n : Nat} (w : World) (h : BytesN w v n) (hn : n ≤ 1048576) : Calls Try.prog 37 #[v] w (RetDY0 3 w) := by
  have BR := hid (blk_new w #[.int .i64 0, .int .i64 0, .slice none 0 0, .int .i64 0] 27)
  obtain ⟨a, cap, rfl, _, _, _⟩ := id h
  have HN := hid (bytesN_kept' h (gr_alloc (gr_refl w none) (.cells #[.int .i64 0, .int .i64 0, .slice none 0 0, .int .i64 0] 27)) (by intro j e; cases e))
  clear h
  go_enter Try.func37, Try.ntmps37
  go_wp2_with fail
  refine (l01New_any _ HN.out hn).mono ?_
  rintro e w1 ⟨C, hC, rfl, hc, g1⟩
  go_wp2_with fail
  refine (l06Year_any _ hc).mono ?_
  rintro e w2 ⟨r, s, m, u, xs, rfl, hs, ho, _, g2⟩
  obtain ⟨ua, uc, rfl⟩ := sl_own ho.2
  simp only [World.size_alloc] at hC
  have z1 := gr_le g1
  simp only [World.size_alloc] at z1
  have B1 := (BR.out.on g1).kept g2 (by simp; omega)
  obtain ⟨_, _, _, _, f0, f1, f2, f3⟩ := cells4 B1
  obtain ⟨m0, m1, m2, m3, -⟩ := cells4 (blk4_set (x0 := .int .i64 r) (x1 := .int .i64 s) (x2 := .slice ua xs.length uc) (x3 := .int .i64 m) B1)
  have HE := hid (And.intro (show OwnI 3 _ w.heap.size (.slice ua xs.length uc) xs from ⟨ho.1, own_setb4 (ho.mono (by omega)).2 B1 (by decide) (.int .i64 r) (.int .i64 s) (.slice ua xs.length uc) (.int .i64 m)⟩) (gr4' (x0 := .int .i64 r) (x1 := .int .i64 s) (x2 := .slice ua xs.length uc) (x3 := .int .i64 m) (gr_trans (gr_then (gr_alloc (gr_refl w none) _) g1) g2 (fun j e => by cases e; exact .inr (by omega))) (Nat.le_refl w.heap.size)))
  clear HN BR B1 ho g1 g2 hc
  go_wp2
  exact bodyPost_ret (v := .agg #[.int .i64 r, .int .i64 s, .slice ua xs.length uc, .int .i64 m]) (by simp [results, Try.results37, go_sem, m0, m1, m2, m3]) rfl ⟨_, _, _, _, xs, rfl, hs, HE.out⟩
end Go.Proofs.Ytmnfainepmnpeaa
