/- The levels and the short days of a year: the program's walks. -/
import Derived.Test.YtmnfainepmnpeaaYSum
namespace Go.Proofs.Ytmnfainepmnpeaa
open Go.RowKit

theorem own_ne_blk {w : World} {B B' s n : Nat} {E U : TypeId} {v : Value} {xs : List Value} {cs : Array Value} (h : w.ownsRow B E s v n xs) (hb : Blk w B' cs U) (hU : U ≠ E) : v.ownBlock ≠ some B' := by
  rcases h.2 with ⟨rfl, _⟩ | ⟨g, cap, cur, rfl, _, hg, _⟩
  · simp [Value.ownBlock]
  · intro e
    simp only [Value.ownBlock, Option.some.injEq] at e
    subst e
    unfold Blk at hb
    rw [hb] at hg
    simp only [Option.some.injEq, Obj.cells.injEq] at hg
    exact hU hg.2.1
/-- The record: box Bc holds a row of numbers of the call's own, box By the year. -/
def RowJ (base Bc By : Nat) (Y : Array Value) (L : Nat → List Int) (k : Nat) (a : World) : Prop :=
  ∃ v, Blk a Bc #[v] 22 ∧ a.ownsRow base 3 1 v (L k).length ((L k).map (Value.int .i64)) ∧ Blk a By Y 27
def RowStep (base Bc : Nat) (L : Nat → List Int) (k : Nat) (v : Value) (a b : World) : Prop :=
  (∃ wm v', Gr a wm v.ownBlock ∧ wm.ownsRow base 3 1 v' (L (k + 1)).length ((L (k + 1)).map (Value.int .i64)) ∧ b = wm.setCell ⟨Bc, 0, none⟩ v') ∨ (L (k + 1) = L k ∧ b = a)
theorem row_told {w : World} {Bc By : Nat} {Y : Array Value} {r s n : Int} {xs : List Int} {K : Nat} {caps : List Value} {L : Nat → List Int} (hb : Bc < w.heap.size) (hy : By < w.heap.size)
    (hc : ∀ k a v, k < xs.length → Blk a Bc #[v] 22 → a.ownsRow w.heap.size 3 1 v (L k).length ((L k).map (Value.int .i64)) → Blk a By Y 27 → w.heap.size ≤ a.heap.size → Calls Try.prog K ([Value.int .i64 k, Value.int .i64 (lostAt r s n xs k), Value.int .i64 (drawnAt r s n xs k), Value.int .i64 (levAt r s n xs (k + 1))] ++ caps).toArray a fun e b => e = .returned (.tuple #[]) ∧ RowStep w.heap.size Bc L k v a b) :
    Told 3 22 w Bc r s n xs K caps (RowJ w.heap.size Bc By Y L) where
  on := fun k a b ⟨v, h1, h2, h3⟩ hg => ⟨v, h1.on hg, h2.kept hg (by cases v.ownBlock <;> simp), h3.on hg⟩
  set := fun k a B cs U o u hU hU2 hB hw ⟨v, h1, h2, h3⟩ => by
    refine ⟨v, blk_set h1 (by omega), ?_, blk_set h3 (by omega)⟩
    exact h2.kept (gr_set (p := ⟨B, o, none⟩) (gr_refl a (some B)) (.inl rfl) u) (.inr (own_ne_blk h2 hB hU))
  call := fun k a hk ⟨v, h1, h2, h3⟩ hg => by
    refine (hc k a v hk h1 h2 h3 (gr_le hg)).mono fun e b h => ?_
    obtain ⟨rfl, ⟨wm, v', g1, o1, rfl⟩ | ⟨h0, rfl⟩⟩ := h
    · have nb := own_ne_blk h2 h1 (by decide)
      have m1 : Blk wm Bc #[v] 22 := h1.kept g1 nb
      have m3 := h3.kept g1 (own_ne_blk h2 h3 (by decide))
      have b1 := Go.Joins.block_setCell m1 (i := 0) v'
      have hne : By ≠ Bc := fun e => by
        subst e
        unfold Blk at h1 h3
        rw [h1] at h3
        simp at h3
      refine ⟨rfl, ⟨v', by unfold Blk; simpa using b1, ?_, blk_set m3 hne⟩, ?_, ?_⟩
      · exact o1.kept (gr_set (p := ⟨Bc, 0, none⟩) (gr_refl wm (some Bc)) (.inl rfl) v') (.inr (own_ne_blk o1 m1 (by decide)))
      · exact gr_set (gr_trans hg g1 (fun j e => .inr (h2.lt j e).1)) (.inl rfl) _
      · intro B cs U hU hU2 hB
        refine blk_set (hB.kept g1 (own_ne_blk h2 hB hU)) fun e => ?_
        subst e
        unfold Blk at h1 hB
        rw [h1] at hB
        simp only [Option.some.injEq, Obj.cells.injEq] at hB
        exact hU2 hB.2.1.symm
    · exact ⟨rfl, ⟨v, h1, by rw [h0]; exact h2, h3⟩, hg, fun _ _ _ _ _ h => h⟩
theorem levels1_any {Bc base m : Nat} {xs : List Value} {v : Value} (d l dr lv : Int) (a : World) (h : Blk a Bc #[v] 22) (hown : a.ownsRow base 3 1 v m xs) (hm : m ≤ 1000) (hB : base ≤ a.heap.size) :
    Calls Try.prog 68 #[.int .i64 d, .int .i64 l, .int .i64 dr, .int .i64 lv, .pointer (some ⟨Bc, 0, none⟩)] a fun e b => e = .returned (.tuple #[]) ∧ ∃ wm v', Gr a wm v.ownBlock ∧ wm.ownsRow base 3 1 v' (m + 1) (xs ++ [.int .i64 lv]) ∧ b = wm.setCell ⟨Bc, 0, none⟩ v' := by
  have c0 := Go.Joins.cell_of_block h 0
  simp at c0
  have HB := hid h
  have hne := hid (own_ne_blk hown h (by decide))
  obtain ⟨i0, hi, hz0, hz1, hz2⟩ := info_parts info_int
  have hbase : base ≤ a.heap.size + 1 := by omega
  obtain ⟨va, vc, rfl⟩ := sl_own hown
  clear h
  go_enter Try.func68, Try.ntmps68
  go_wp2_with (at_builtin; refine wpList_append_own _ rfl _ _ 22 rfl base 3 i0 (.int .i64 0) 1 8 Try.underlying22 hi hz0 hz1 hz2 rfl (by decide) _ _ _ rfl (hown.alloc _) ⟨a.heap.size, 0, none⟩ 1 1 [.int .i64 lv] rfl rfl (new_one _ _ _) (one_int _) (by unfold maxLen; omega) (by omega) (by simpa using hbase) ?_)
  intro v' wm hown' hgrow _
  obtain ⟨va', vc', rfl⟩ := sl_own hown'
  have g1 : Gr a wm (Value.slice va m vc).ownBlock := gr_same (gr_mono (gr_alloc (gr_refl a none) _)) hgrow
  have B1 : Blk wm Bc #[.slice va m vc] 22 := HB.out.kept g1 hne.out
  have c1 := Go.Joins.cell_of_block B1 0
  have f1 := Go.Joins.unfrozen_of_block B1 0
  simp at c1
  have HO := hid hown'
  have HG := hid g1
  clear hown' hgrow g1 hown c0 B1
  go_wp2
  go_end0
  exact ⟨rfl, wm, _, HG.out, HO.out, rfl⟩
theorem short1_yes {Bc By base m : Nat} {xs : List Value} {v : Value} {r s n : Int} {y : Value} (d l dr lv : Int) (a : World) (h : Blk a Bc #[v] 22) (hy : Blk a By #[.int .i64 r, .int .i64 s, y, .int .i64 n] 27) (hown : a.ownsRow base 3 1 v m xs) (hm : m ≤ 1000) (hB : base ≤ a.heap.size) (hd : dr < n) :
    Calls Try.prog 69 #[.int .i64 d, .int .i64 l, .int .i64 dr, .int .i64 lv, .pointer (some ⟨By, 0, none⟩), .pointer (some ⟨Bc, 0, none⟩)] a fun e b => e = .returned (.tuple #[]) ∧ ∃ wm v', Gr a wm v.ownBlock ∧ wm.ownsRow base 3 1 v' (m + 1) (xs ++ [.int .i64 d]) ∧ b = wm.setCell ⟨Bc, 0, none⟩ v' := by
  have c0 := Go.Joins.cell_of_block h 0
  have cy := Go.Joins.cell_of_block hy 3
  simp at c0 cy
  have HB := hid h
  have hne := hid (own_ne_blk hown h (by decide))
  obtain ⟨i0, hi, hz0, hz1, hz2⟩ := info_parts info_int
  have hbase : base ≤ a.heap.size + 1 := by omega
  obtain ⟨va, vc, rfl⟩ := sl_own hown
  clear h hy
  go_enter Try.func69, Try.ntmps69
  go_wp2_with (at_builtin; refine wpList_append_own _ rfl _ _ 22 rfl base 3 i0 (.int .i64 0) 1 8 Try.underlying22 hi hz0 hz1 hz2 rfl (by decide) _ _ _ rfl (hown.alloc _) ⟨a.heap.size, 0, none⟩ 1 1 [.int .i64 d] rfl rfl (new_one _ _ _) (one_int _) (by unfold maxLen; omega) (by omega) (by simpa using hbase) ?_)
  intro v' wm hown' hgrow _
  obtain ⟨va', vc', rfl⟩ := sl_own hown'
  have g1 : Gr a wm (Value.slice va m vc).ownBlock := gr_same (gr_mono (gr_alloc (gr_refl a none) _)) hgrow
  have B1 : Blk wm Bc #[.slice va m vc] 22 := HB.out.kept g1 hne.out
  have c1 := Go.Joins.cell_of_block B1 0
  have f1 := Go.Joins.unfrozen_of_block B1 0
  simp at c1
  have HO := hid hown'
  have HG := hid g1
  clear hown' hgrow g1 hown c0 B1
  go_wp2
  go_end0
  exact ⟨rfl, wm, _, HG.out, HO.out, rfl⟩
theorem short1_no {Bc By : Nat} {r s n : Int} {y : Value} (d l dr lv : Int) (a : World) (hy : Blk a By #[.int .i64 r, .int .i64 s, y, .int .i64 n] 27) (hd : ¬ dr < n) :
    Calls Try.prog 69 #[.int .i64 d, .int .i64 l, .int .i64 dr, .int .i64 lv, .pointer (some ⟨By, 0, none⟩), .pointer (some ⟨Bc, 0, none⟩)] a fun e b => e = .returned (.tuple #[]) ∧ a = b := by
  have cy := Go.Joins.cell_of_block hy 3
  simp at cy
  clear hy
  go_enter Try.func69, Try.ntmps69
  go_wp2
  go_end0
  exact ⟨rfl, rfl⟩
def levelsTo (r s n : Int) (xs : List Int) (k : Nat) : List Int := daysTo (fun i => levAt r s n xs (i + 1)) k
def shortTo (r s n : Int) (xs : List Int) (k : Nat) : List Int := whereTo (fun i => decide (drawnAt r s n xs i < n)) k
def levelsV (r s n : Int) (xs : List Int) : List Int := if yearB r s xs n then levelsTo r s n xs xs.length else []
def shortV (r s n : Int) (xs : List Int) : List Int := if yearB r s xs n then shortTo r s n xs xs.length else []
theorem levels_i64 {r s n : Int} {xs : List Int} (h : yearB r s xs n = true) : ∀ x ∈ levelsTo r s n xs xs.length, I64 x := days_i64 fun _ hi => (day_bd h hi).2.1
theorem short_i64 {r s n : Int} {xs : List Int} (h : yearB r s xs n = true) : ∀ x ∈ shortTo r s n xs xs.length, I64 x := fun x hx => by
  have := whereTo_mem _ _ x hx
  have := (yearB_parts h).2.2.1
  unfold I64; omega
theorem levels_call {w : World} {Bc By : Nat} {y : Value} {r s n : Int} {xs : List Int} (hl : xs.length ≤ 400) : ∀ k a v, k < xs.length → Blk a Bc #[v] 22 → a.ownsRow w.heap.size 3 1 v (levelsTo r s n xs k).length ((levelsTo r s n xs k).map (Value.int .i64)) → Blk a By #[.int .i64 r, .int .i64 s, y, .int .i64 n] 27 → w.heap.size ≤ a.heap.size → Calls Try.prog 68 ([Value.int .i64 k, Value.int .i64 (lostAt r s n xs k), Value.int .i64 (drawnAt r s n xs k), Value.int .i64 (levAt r s n xs (k + 1))] ++ [Value.pointer (some ⟨Bc, 0, none⟩)]).toArray a fun e b => e = .returned (.tuple #[]) ∧ RowStep w.heap.size Bc (levelsTo r s n xs) k v a b := fun k a v hk h1 h2 _ hw => by
  refine (levels1_any k (lostAt r s n xs k) (drawnAt r s n xs k) (levAt r s n xs (k + 1)) a h1 h2 (by simp [levelsTo]; omega) hw).mono fun e b h => ⟨h.1, .inl ?_⟩
  obtain ⟨wm, v', g, o, e⟩ := h.2
  refine ⟨wm, v', g, ?_, e⟩
  have e1 : levelsTo r s n xs (k + 1) = levelsTo r s n xs k ++ [levAt r s n xs (k + 1)] := daysTo_succ _ _
  rw [e1, List.length_append, List.map_append]
  exact o
theorem short_call {w : World} {Bc By : Nat} {y : Value} {r s n : Int} {xs : List Int} (hl : xs.length ≤ 400) : ∀ k a v, k < xs.length → Blk a Bc #[v] 22 → a.ownsRow w.heap.size 3 1 v (shortTo r s n xs k).length ((shortTo r s n xs k).map (Value.int .i64)) → Blk a By #[.int .i64 r, .int .i64 s, y, .int .i64 n] 27 → w.heap.size ≤ a.heap.size → Calls Try.prog 69 ([Value.int .i64 k, Value.int .i64 (lostAt r s n xs k), Value.int .i64 (drawnAt r s n xs k), Value.int .i64 (levAt r s n xs (k + 1))] ++ [Value.pointer (some ⟨By, 0, none⟩), Value.pointer (some ⟨Bc, 0, none⟩)]).toArray a fun e b => e = .returned (.tuple #[]) ∧ RowStep w.heap.size Bc (shortTo r s n xs) k v a b := fun k a v hk h1 h2 h3 hw => by
  have e1 : shortTo r s n xs (k + 1) = if decide (drawnAt r s n xs k < n) = true then shortTo r s n xs k ++ [(k : Int)] else shortTo r s n xs k := rfl
  by_cases hd : drawnAt r s n xs k < n
  · refine (short1_yes k (lostAt r s n xs k) (drawnAt r s n xs k) (levAt r s n xs (k + 1)) a h1 h3 h2 (by have : (shortTo r s n xs k).length ≤ k := whereTo_length _ _
                                                                                                          omega) hw hd).mono fun e b h => ⟨h.1, .inl ?_⟩
    obtain ⟨wm, v', g, o, e⟩ := h.2
    refine ⟨wm, v', g, ?_, e⟩
    rw [e1, if_pos (by simpa using hd), List.length_append, List.map_append]
    exact o
  · refine (short1_no k (lostAt r s n xs k) (drawnAt r s n xs k) (levAt r s n xs (k + 1)) a h3 hd).mono fun e b h => ⟨h.1, .inr ⟨?_, h.2.symm⟩⟩
    rw [e1, if_neg (by simpa using hd)]
theorem implLevelsOf_any {v : Value} {xs : List Int} (r s n : Int) (w : World) (hv : Ints w v xs) :
    Calls Try.prog 38 #[.agg #[.int .i64 r, .int .i64 s, v, .int .i64 n]] w (RetI 3 w (levelsV r s n xs)) := by
  have HV := hid hv
  obtain ⟨_, a, cap, rfl, hcap, hmax, hat⟩ := hv
  clear hat
  cases hy : yearB r s xs n
  · rw [show levelsV r s n xs = [] from by simp [levelsV, hy]]
    have HY := hid hy
    clear hy
    go_enter Try.func38, Try.ntmps38
    go_wp2_with fail
    refine (yearOk_any _ _ _ _ (HV.out.on (gr_alloc (gr_refl _ _) _))).mono ?_
    rw [HY.out]
    rintro e w1 ⟨rfl, g1⟩
    go_wp2
    go_ret
    exact ⟨_, rfl, ⟨by simp, World.ownsRow_nil _ _ _ _⟩, (by repeat (first | (with_reducible exact gr_refl _ _) | (with_reducible assumption) | (with_reducible refine gr_drew ?_) | (with_reducible refine gr_drewN ?_ _) | (with_reducible refine gr_alloc ?_ _) | (with_reducible refine gr_set ?_ (.inr (by simp; done)) _) | (with_reducible refine gr_set ?_ (.inr (by simp; omega)) _) | (with_reducible refine gr_then ?_ (by with_reducible assumption))))⟩
  · rw [show levelsV r s n xs = levelsTo r s n xs xs.length from by simp [levelsV, hy]]
    obtain ⟨-, -, hl, -, -⟩ := yearB_parts hy
    have HY := hid hy
    have HI := hid (levels_i64 hy)
    have hmf : ∀ (fn : Fn) (first cap : Array Value) (w : World), (Instr.makeFunc fn first cap).run Try.prog w = .ok (.func fn first cap) w := fun _ _ _ _ => rfl
    clear hy
    go_enter Try.func38, Try.ntmps38
    go_wp2_with fail
    refine (yearOk_any _ _ _ _ (HV.out.on (gr_alloc (gr_refl _ _) _))).mono ?_
    rw [HY.out]
    rintro e w1 ⟨rfl, g1⟩
    have G1 : Gr w w1 none := gr_then (gr_alloc (gr_refl _ _) _) g1
    have BY := hid ((blk_new w #[.int .i64 r, .int .i64 s, .slice a xs.length cap, .int .i64 n] 27).on (gr_then g1 (gr_alloc (gr_refl w1 none) (.cells #[.slice none 0 0] 22))))
    obtain ⟨p0, p1, p2, p3, lA⟩ := (yBox_new w 27 r s (.slice a xs.length cap) n).on g1
    have HV1 := hid (HV.out.on (gr_alloc G1 (.cells #[.slice none 0 0] 22)))
    have hvb : Hid ((Value.slice a xs.length cap).ownBlock ≠ some w1.heap.size) := by
      intro e
      obtain ⟨_, a', c', e', _, _, h⟩ := HV.out
      simp only [Value.slice.injEq] at e'
      obtain ⟨rfl, -, -⟩ := e'
      rcases h with h | ⟨b, off, rfl, hc⟩
      · subst h; simp at hl
      · have h1 := hc.lt (by intro e; subst e; simp at hl)
        simp only [Value.ownBlock, Option.some.injEq] at e
        have h2 := gr_le G1
        omega
    clear g1
    go_wp2_with fail
    refine (run_one (hv := HV1.out) (hy := HY.out) (hvb := hvb.out) (hT1 := by decide) (hT2 := by decide) (ht := row_told (By := w.heap.size) (by simp) (by simp; omega) (levels_call hl.2)) (h0 := ⟨_, blk_new _ _ _, World.ownsRow_nil _ _ _ _, BY.out⟩) (eK := enterK Try.func68 (by kernel_rfl) rfl)).mono ?_
    rintro e w2 ⟨rfl, hJ, hG⟩
    obtain ⟨u, h1, h2, h3⟩ := hJ
    obtain ⟨ua, uc, rfl⟩ := sl_own h2
    have cJ := Go.Joins.cell_of_block h1 0
    simp at cJ
    have HG2 := hid (gr_trans (gr_alloc G1 _) hG (fun j e => by cases e; exact .inr (gr_le G1)))
    have HO := hid (OwnI.mono (B' := w.heap.size) ⟨HI.out, h2⟩ (by have := gr_le G1; simp; omega))
    clear h1 h2 h3 hG
    go_wp2
    go_ret
    exact ⟨_, rfl, HO.out, HG2.out⟩
theorem implShortDays_any {v : Value} {xs : List Int} (r s n : Int) (w : World) (hv : Ints w v xs) :
    Calls Try.prog 40 #[.agg #[.int .i64 r, .int .i64 s, v, .int .i64 n]] w (RetI 3 w (shortV r s n xs)) := by
  have HV := hid hv
  obtain ⟨_, a, cap, rfl, hcap, hmax, hat⟩ := hv
  clear hat
  cases hy : yearB r s xs n
  · rw [show shortV r s n xs = [] from by simp [shortV, hy]]
    have HY := hid hy
    clear hy
    go_enter Try.func40, Try.ntmps40
    go_wp2_with fail
    refine (yearOk_any _ _ _ _ (HV.out.on (gr_alloc (gr_refl _ _) _))).mono ?_
    rw [HY.out]
    rintro e w1 ⟨rfl, g1⟩
    go_wp2
    go_ret
    exact ⟨_, rfl, ⟨by simp, World.ownsRow_nil _ _ _ _⟩, (by repeat (first | (with_reducible exact gr_refl _ _) | (with_reducible assumption) | (with_reducible refine gr_drew ?_) | (with_reducible refine gr_drewN ?_ _) | (with_reducible refine gr_alloc ?_ _) | (with_reducible refine gr_set ?_ (.inr (by simp; done)) _) | (with_reducible refine gr_set ?_ (.inr (by simp; omega)) _) | (with_reducible refine gr_then ?_ (by with_reducible assumption))))⟩
  · rw [show shortV r s n xs = shortTo r s n xs xs.length from by simp [shortV, hy]]
    obtain ⟨-, -, hl, -, -⟩ := yearB_parts hy
    have HY := hid hy
    have HI := hid (short_i64 hy)
    have hmf : ∀ (fn : Fn) (first cap : Array Value) (w : World), (Instr.makeFunc fn first cap).run Try.prog w = .ok (.func fn first cap) w := fun _ _ _ _ => rfl
    clear hy
    go_enter Try.func40, Try.ntmps40
    go_wp2_with fail
    refine (yearOk_any _ _ _ _ (HV.out.on (gr_alloc (gr_refl _ _) _))).mono ?_
    rw [HY.out]
    rintro e w1 ⟨rfl, g1⟩
    have G1 : Gr w w1 none := gr_then (gr_alloc (gr_refl _ _) _) g1
    have BY := hid ((blk_new w #[.int .i64 r, .int .i64 s, .slice a xs.length cap, .int .i64 n] 27).on (gr_then g1 (gr_alloc (gr_refl w1 none) (.cells #[.slice none 0 0] 22))))
    obtain ⟨p0, p1, p2, p3, lA⟩ := (yBox_new w 27 r s (.slice a xs.length cap) n).on g1
    have HV1 := hid (HV.out.on (gr_alloc G1 (.cells #[.slice none 0 0] 22)))
    have hvb : Hid ((Value.slice a xs.length cap).ownBlock ≠ some w1.heap.size) := by
      intro e
      obtain ⟨_, a', c', e', _, _, h⟩ := HV.out
      simp only [Value.slice.injEq] at e'
      obtain ⟨rfl, -, -⟩ := e'
      rcases h with h | ⟨b, off, rfl, hc⟩
      · subst h; simp at hl
      · have h1 := hc.lt (by intro e; subst e; simp at hl)
        simp only [Value.ownBlock, Option.some.injEq] at e
        have h2 := gr_le G1
        omega
    clear g1
    go_wp2_with fail
    refine (run_two (hv := HV1.out) (hy := HY.out) (hvb := hvb.out) (hT1 := by decide) (hT2 := by decide) (ht := row_told (By := w.heap.size) (by simp) (by simp; omega) (short_call hl.2)) (h0 := ⟨_, blk_new _ _ _, World.ownsRow_nil _ _ _ _, BY.out⟩) (eK := enterK Try.func69 (by kernel_rfl) rfl)).mono ?_
    rintro e w2 ⟨rfl, hJ, hG⟩
    obtain ⟨u, h1, h2, h3⟩ := hJ
    obtain ⟨ua, uc, rfl⟩ := sl_own h2
    have cJ := Go.Joins.cell_of_block h1 0
    simp at cJ
    have HG2 := hid (gr_trans (gr_alloc G1 _) hG (fun j e => by cases e; exact .inr (gr_le G1)))
    have HO := hid (OwnI.mono (B' := w.heap.size) ⟨HI.out, h2⟩ (by have := gr_le G1; simp; omega))
    clear h1 h2 h3 hG
    go_wp2
    go_ret
    exact ⟨_, rfl, HO.out, HG2.out⟩
end Go.Proofs.Ytmnfainepmnpeaa
