/- What is lost, what is taken, the dry days of a year: the program's walks. -/
import Derived.Test.YtmnfainepmnpeaaYRun
namespace Go.Proofs.Ytmnfainepmnpeaa
open Go.RowKit

/-- 1 where the level behind day k is 0. -/
def dryAt (r s n : Int) (xs : List Int) (k : Nat) : Int := if levAt r s n xs (k + 1) = 0 then 1 else 0
def SumJ (I : TypeId) (Bc : Nat) (f : Nat → Int) (k : Nat) (a : World) : Prop := Blk a Bc #[.int .i64 (sumF f k)] I
theorem blk_set {a : World} {B B' o : Nat} {cs : Array Value} {T : TypeId} {u : Value} (h : Blk a B cs T) (hn : B ≠ B') : Blk (a.setCell ⟨B', o, none⟩ u) B cs T :=
  h.kept (gr_set (p := ⟨B', o, none⟩) (gr_refl a (some B')) (.inl rfl) u) (by simp; exact Ne.symm hn)
theorem keptT_set {a : World} {I T U : TypeId} {B : Nat} {cs : Array Value} {o : Nat} {u : Value} (hU : U = I ∨ U = T) (h : Blk a B cs U) : KeptT I T a (a.setCell ⟨B, o, none⟩ u) := by
  intro B' cs' U' h1 h2 h3
  refine blk_set h3 fun e => ?_
  subst e
  unfold Blk at h h3
  rw [h] at h3
  simp only [Option.some.injEq, Obj.cells.injEq] at h3
  rcases hU with e | e
  · exact h1 (h3.2.1.symm.trans e)
  · exact h2 (h3.2.1.symm.trans e)
def SumD (Bc : Nat) (x : Int) (a : World) (e : Ending) (b : World) : Prop := e = .returned (.tuple #[]) ∧ b = a.setCell ⟨Bc, 0, none⟩ (.int .i64 x)
theorem lost1_any {Bc : Nat} (d l dr lv x : Int) (a : World) (h : Blk a Bc #[.int .i64 x] 3) (h0 : 0 ≤ x) (h1 : x ≤ 1000000000) (h2 : 0 ≤ l) (h3 : l ≤ 1000000) :
    Calls Try.prog 63 #[.int .i64 d, .int .i64 l, .int .i64 dr, .int .i64 lv, .pointer (some ⟨Bc, 0, none⟩)] a (SumD Bc (x + l) a) := by
  have c0 := Go.Joins.cell_of_block h 0
  have f0 := Go.Joins.unfrozen_of_block h 0
  simp at c0
  clear h
  go_enter Try.func63, Try.ntmps63
  go_wp2
  go_end0
  exact ⟨rfl, rfl⟩
theorem taken1_any {Bc : Nat} (d l dr lv x : Int) (a : World) (h : Blk a Bc #[.int .i64 x] 3) (h0 : 0 ≤ x) (h1 : x ≤ 1000000000) (h2 : 0 ≤ dr) (h3 : dr ≤ 1000000) :
    Calls Try.prog 64 #[.int .i64 d, .int .i64 l, .int .i64 dr, .int .i64 lv, .pointer (some ⟨Bc, 0, none⟩)] a (SumD Bc (x + dr) a) := by
  have c0 := Go.Joins.cell_of_block h 0
  have f0 := Go.Joins.unfrozen_of_block h 0
  simp at c0
  clear h
  go_enter Try.func64, Try.ntmps64
  go_wp2
  go_end0
  exact ⟨rfl, rfl⟩
theorem dry1_yes {Bc : Nat} (d l dr x : Int) (a : World) (h : Blk a Bc #[.int .i64 x] 3) (h0 : 0 ≤ x) (h1 : x ≤ 1000000000) :
    Calls Try.prog 65 #[.int .i64 d, .int .i64 l, .int .i64 dr, .int .i64 0, .pointer (some ⟨Bc, 0, none⟩)] a (SumD Bc (x + 1) a) := by
  have c0 := Go.Joins.cell_of_block h 0
  have f0 := Go.Joins.unfrozen_of_block h 0
  simp at c0
  clear h
  go_enter Try.func65, Try.ntmps65
  go_wp2
  go_end0
  exact ⟨rfl, rfl⟩
theorem dry1_no {Bc : Nat} (d l dr lv : Int) (a : World) (h : lv ≠ 0) :
    Calls Try.prog 65 #[.int .i64 d, .int .i64 l, .int .i64 dr, .int .i64 lv, .pointer (some ⟨Bc, 0, none⟩)] a fun e b => e = .returned (.tuple #[]) ∧ a = b := by
  have hb : (lv == 0) = false := by simpa using h
  clear h
  go_enter Try.func65, Try.ntmps65
  go_wp2
  go_end0
  exact ⟨rfl, rfl⟩
theorem sumJ_on {I : TypeId} {Bc : Nat} {f : Nat → Int} : ∀ k a b, SumJ I Bc f k a → Gr a b none → SumJ I Bc f k b := fun _ _ _ h hg => Blk.on h hg
theorem sumJ_step {I : TypeId} {Bc : Nat} {f : Nat → Int} {k : Nat} {a : World} (h : SumJ I Bc f k a) : SumJ I Bc f (k + 1) (a.setCell ⟨Bc, 0, none⟩ (.int .i64 (sumF f k + f k))) := by
  have := Go.Joins.block_setCell h (i := 0) (.int .i64 (sumF f k + f k))
  unfold SumJ Blk
  simpa [sumF] using this
def lostV (r s n : Int) (xs : List Int) : Int := if yearB r s xs n then sumF (lostAt r s n xs) xs.length else -1
def takenV (r s n : Int) (xs : List Int) : Int := if yearB r s xs n then sumF (drawnAt r s n xs) xs.length else -1
def dryV (r s n : Int) (xs : List Int) : Int := if yearB r s xs n then sumF (dryAt r s n xs) xs.length else -1
theorem dry_bd (r s n : Int) (xs : List Int) (k : Nat) : 0 ≤ dryAt r s n xs k ∧ dryAt r s n xs k ≤ 1000000 := by unfold dryAt; split <;> omega
theorem sum_bd400 {f : Nat → Int} {N : Nat} (h : ∀ i, i < N → 0 ≤ f i ∧ f i ≤ 1000000) (hN : N ≤ 400) {k : Nat} (hk : k ≤ N) : 0 ≤ sumF f k ∧ sumF f k ≤ 1000000000 := by
  have := sumF_bd h k hk
  omega
theorem sum_told {w : World} {Bc : Nat} {r s n : Int} {xs : List Int} {K : Nat} {f : Nat → Int} (hb : Bc < w.heap.size)
    (hc : ∀ k a, k < xs.length → Blk a Bc #[.int .i64 (sumF f k)] 3 → Calls Try.prog K ([Value.int .i64 k, Value.int .i64 (lostAt r s n xs k), Value.int .i64 (drawnAt r s n xs k), Value.int .i64 (levAt r s n xs (k + 1))] ++ [Value.pointer (some ⟨Bc, 0, none⟩)]).toArray a fun e b => e = .returned (.tuple #[]) ∧ (b = a.setCell ⟨Bc, 0, none⟩ (.int .i64 (sumF f k + f k)) ∨ (f k = 0 ∧ b = a))) :
    Told 3 22 w Bc r s n xs K [Value.pointer (some ⟨Bc, 0, none⟩)] (SumJ 3 Bc f) where
  on := sumJ_on
  set := fun k a B cs U o u h1 _ hB hw hJ => blk_set hJ (by omega)
  call := fun k a hk hJ hg => by
    refine (hc k a hk hJ).mono fun e b h => ?_
    obtain ⟨rfl, rfl | ⟨h0, rfl⟩⟩ := h
    · exact ⟨rfl, sumJ_step hJ, gr_set hg (.inl rfl) _, keptT_set (.inl rfl) hJ⟩
    · refine ⟨rfl, ?_, hg, fun _ _ _ _ _ h => h⟩
      unfold SumJ at hJ ⊢
      rw [show sumF f (k + 1) = sumF f k from by simp [sumF, h0]]
      exact hJ
section
variable {Bc k : Nat} {r s n : Int} {xs : List Int} {a : World}
theorem sum_lost (hB : Blk a Bc #[.int .i64 (sumF (lostAt r s n xs) k)] 3) (bs : 0 ≤ sumF (lostAt r s n xs) k ∧ sumF (lostAt r s n xs) k ≤ 1000000000) (_ : 0 ≤ levAt r s n xs (k + 1) ∧ levAt r s n xs (k + 1) ≤ 1000000) (b3 : 0 ≤ lostAt r s n xs k ∧ lostAt r s n xs k ≤ 1000000) (_ : 0 ≤ drawnAt r s n xs k ∧ drawnAt r s n xs k ≤ 1000000) :
    Calls Try.prog 63 ([Value.int .i64 k, Value.int .i64 (lostAt r s n xs k), Value.int .i64 (drawnAt r s n xs k), Value.int .i64 (levAt r s n xs (k + 1))] ++ [Value.pointer (some ⟨Bc, 0, none⟩)]).toArray a fun e b => e = .returned (.tuple #[]) ∧ (b = a.setCell ⟨Bc, 0, none⟩ (.int .i64 (sumF (lostAt r s n xs) k + lostAt r s n xs k)) ∨ (lostAt r s n xs k = 0 ∧ b = a)) :=
  (lost1_any k _ (drawnAt r s n xs k) (levAt r s n xs (k + 1)) _ a hB bs.1 bs.2 b3.1 b3.2).mono fun _ _ h => ⟨h.1, .inl h.2⟩
theorem sum_taken (hB : Blk a Bc #[.int .i64 (sumF (drawnAt r s n xs) k)] 3) (bs : 0 ≤ sumF (drawnAt r s n xs) k ∧ sumF (drawnAt r s n xs) k ≤ 1000000000) (_ : 0 ≤ levAt r s n xs (k + 1) ∧ levAt r s n xs (k + 1) ≤ 1000000) (_ : 0 ≤ lostAt r s n xs k ∧ lostAt r s n xs k ≤ 1000000) (b4 : 0 ≤ drawnAt r s n xs k ∧ drawnAt r s n xs k ≤ 1000000) :
    Calls Try.prog 64 ([Value.int .i64 k, Value.int .i64 (lostAt r s n xs k), Value.int .i64 (drawnAt r s n xs k), Value.int .i64 (levAt r s n xs (k + 1))] ++ [Value.pointer (some ⟨Bc, 0, none⟩)]).toArray a fun e b => e = .returned (.tuple #[]) ∧ (b = a.setCell ⟨Bc, 0, none⟩ (.int .i64 (sumF (drawnAt r s n xs) k + drawnAt r s n xs k)) ∨ (drawnAt r s n xs k = 0 ∧ b = a)) :=
  (taken1_any k (lostAt r s n xs k) _ (levAt r s n xs (k + 1)) _ a hB bs.1 bs.2 b4.1 b4.2).mono fun _ _ h => ⟨h.1, .inl h.2⟩
theorem sum_dry (hB : Blk a Bc #[.int .i64 (sumF (dryAt r s n xs) k)] 3) (bs : 0 ≤ sumF (dryAt r s n xs) k ∧ sumF (dryAt r s n xs) k ≤ 1000000000) (_ : 0 ≤ levAt r s n xs (k + 1) ∧ levAt r s n xs (k + 1) ≤ 1000000) (_ : 0 ≤ lostAt r s n xs k ∧ lostAt r s n xs k ≤ 1000000) (_ : 0 ≤ drawnAt r s n xs k ∧ drawnAt r s n xs k ≤ 1000000) :
    Calls Try.prog 65 ([Value.int .i64 k, Value.int .i64 (lostAt r s n xs k), Value.int .i64 (drawnAt r s n xs k), Value.int .i64 (levAt r s n xs (k + 1))] ++ [Value.pointer (some ⟨Bc, 0, none⟩)]).toArray a fun e b => e = .returned (.tuple #[]) ∧ (b = a.setCell ⟨Bc, 0, none⟩ (.int .i64 (sumF (dryAt r s n xs) k + dryAt r s n xs k)) ∨ (dryAt r s n xs k = 0 ∧ b = a)) := by
  by_cases h : levAt r s n xs (k + 1) = 0
  · have e : dryAt r s n xs k = 1 := by rw [dryAt, if_pos h]
    rw [h, e]
    exact (dry1_yes k (lostAt r s n xs k) (drawnAt r s n xs k) _ a hB bs.1 bs.2).mono fun _ _ h => ⟨h.1, .inl h.2⟩
  · have e : dryAt r s n xs k = 0 := by rw [dryAt, if_neg h]
    exact (dry1_no k (lostAt r s n xs k) (drawnAt r s n xs k) _ a h).mono fun _ _ h => ⟨h.1, .inr ⟨e, h.2.symm⟩⟩
end
theorem implLostWater_any {v : Value} {xs : List Int} (r s n : Int) (w : World) (hv : Ints w v xs) :
    Calls Try.prog 29 #[.agg #[.int .i64 r, .int .i64 s, v, .int .i64 n]] w fun e w' => e = .returned (.int .i64 (lostV r s n xs)) ∧ Gr w w' none := by
  have HV := hid hv
  obtain ⟨_, a, cap, rfl, hcap, hmax, hat⟩ := hv
  clear hat
  cases hy : yearB r s xs n
  · rw [show lostV r s n xs = -1 from by simp [lostV, hy]]
    have HY := hid hy
    clear hy
    go_enter Try.func29, Try.ntmps29
    go_wp2_with fail
    refine (yearOk_any _ _ _ _ (HV.out.on (gr_alloc (gr_refl _ _) _))).mono ?_
    rw [HY.out]
    rintro e w1 ⟨rfl, g1⟩
    go_wp2
    go_ret
    exact ⟨rfl, (by repeat (first | (with_reducible exact gr_refl _ _) | (with_reducible assumption) | (with_reducible refine gr_drew ?_) | (with_reducible refine gr_drewN ?_ _) | (with_reducible refine gr_alloc ?_ _) | (with_reducible refine gr_set ?_ (.inr (by simp; done)) _) | (with_reducible refine gr_set ?_ (.inr (by simp; omega)) _) | (with_reducible refine gr_then ?_ (by with_reducible assumption))))⟩
  · rw [show lostV r s n xs = sumF (lostAt r s n xs) xs.length from by simp [lostV, hy]]
    obtain ⟨-, -, hl, -, -⟩ := yearB_parts hy
    have HY := hid hy
    have HD := hid (fun k (hk : k < xs.length) => day_bd hy hk)
    have hmf : ∀ (fn : Fn) (first cap : Array Value) (w : World), (Instr.makeFunc fn first cap).run Try.prog w = .ok (.func fn first cap) w := fun _ _ _ _ => rfl
    clear hy
    go_enter Try.func29, Try.ntmps29
    go_wp2_with fail
    refine (yearOk_any _ _ _ _ (HV.out.on (gr_alloc (gr_refl _ _) _))).mono ?_
    rw [HY.out]
    rintro e w1 ⟨rfl, g1⟩
    have G1 : Gr w w1 none := gr_then (gr_alloc (gr_refl _ _) _) g1
    obtain ⟨p0, p1, p2, p3, lA⟩ := (yBox_new w 27 r s (.slice a xs.length cap) n).on g1
    have HV1 := hid (HV.out.on (gr_alloc G1 (.cells #[.int .i64 0] 3)))
    have hvb : Hid ((Value.slice a xs.length cap).ownBlock ≠ some w1.heap.size) := by
      intro e
      obtain ⟨_, a', c', e', _, _, h⟩ := HV.out
      simp only [Value.slice.injEq] at e'
      obtain ⟨rfl, -, -⟩ := e'
      rcases h with h | ⟨b, off, rfl, hc⟩
      · subst h; simp at hl
      · have h1 := hc.lt (by intro e; subst e; simp at hl)
        simp only [Value.ownBlock, Option.some.injEq] at e
        have h2 := gr_le G1
        omega
    clear g1
    go_wp2_with fail
    have TD : Told 3 22 (w1.alloc (.cells #[.int .i64 0] 3)) w1.heap.size r s n xs 63 [Value.pointer (some ⟨w1.heap.size, 0, none⟩)] (SumJ 3 w1.heap.size (lostAt r s n xs)) := by
      refine sum_told (by simp) fun k a hk hB => ?_
      obtain ⟨-, b2, b3, b4, -⟩ := HD.out k hk
      have bs := sum_bd400 (f := lostAt r s n xs) (fun i hi => by have := HD.out i hi; first | exact this.2.2.1 | exact this.2.2.2.1 | exact dry_bd _ _ _ _ _) hl.2 (k := k) (by omega)
      exact sum_lost hB bs b2 b3 b4
    refine (run_one r s n _ _ _ _ _ HV1.out HY.out hvb.out _ (by decide) (by decide) TD (blk_new _ _ _) (enterK Try.func63 (by kernel_rfl) rfl)).mono ?_
    rintro e w2 ⟨rfl, hJ, hG⟩
    have cJ := Go.Joins.cell_of_block hJ 0
    simp at cJ
    have HG2 := hid (gr_trans (gr_alloc G1 _) hG (fun j e => by cases e; exact .inr (gr_le G1)))
    clear hJ hG TD
    go_wp2
    go_ret
    exact ⟨rfl, HG2.out⟩
theorem implTakenWater_any {v : Value} {xs : List Int} (r s n : Int) (w : World) (hv : Ints w v xs) :
    Calls Try.prog 31 #[.agg #[.int .i64 r, .int .i64 s, v, .int .i64 n]] w fun e w' => e = .returned (.int .i64 (takenV r s n xs)) ∧ Gr w w' none := by
  have HV := hid hv
  obtain ⟨_, a, cap, rfl, hcap, hmax, hat⟩ := hv
  clear hat
  cases hy : yearB r s xs n
  · rw [show takenV r s n xs = -1 from by simp [takenV, hy]]
    have HY := hid hy
    clear hy
    go_enter Try.func31, Try.ntmps31
    go_wp2_with fail
    refine (yearOk_any _ _ _ _ (HV.out.on (gr_alloc (gr_refl _ _) _))).mono ?_
    rw [HY.out]
    rintro e w1 ⟨rfl, g1⟩
    go_wp2
    go_ret
    exact ⟨rfl, (by repeat (first | (with_reducible exact gr_refl _ _) | (with_reducible assumption) | (with_reducible refine gr_drew ?_) | (with_reducible refine gr_drewN ?_ _) | (with_reducible refine gr_alloc ?_ _) | (with_reducible refine gr_set ?_ (.inr (by simp; done)) _) | (with_reducible refine gr_set ?_ (.inr (by simp; omega)) _) | (with_reducible refine gr_then ?_ (by with_reducible assumption))))⟩
  · rw [show takenV r s n xs = sumF (drawnAt r s n xs) xs.length from by simp [takenV, hy]]
    obtain ⟨-, -, hl, -, -⟩ := yearB_parts hy
    have HY := hid hy
    have HD := hid (fun k (hk : k < xs.length) => day_bd hy hk)
    have hmf : ∀ (fn : Fn) (first cap : Array Value) (w : World), (Instr.makeFunc fn first cap).run Try.prog w = .ok (.func fn first cap) w := fun _ _ _ _ => rfl
    clear hy
    go_enter Try.func31, Try.ntmps31
    go_wp2_with fail
    refine (yearOk_any _ _ _ _ (HV.out.on (gr_alloc (gr_refl _ _) _))).mono ?_
    rw [HY.out]
    rintro e w1 ⟨rfl, g1⟩
    have G1 : Gr w w1 none := gr_then (gr_alloc (gr_refl _ _) _) g1
    obtain ⟨p0, p1, p2, p3, lA⟩ := (yBox_new w 27 r s (.slice a xs.length cap) n).on g1
    have HV1 := hid (HV.out.on (gr_alloc G1 (.cells #[.int .i64 0] 3)))
    have hvb : Hid ((Value.slice a xs.length cap).ownBlock ≠ some w1.heap.size) := by
      intro e
      obtain ⟨_, a', c', e', _, _, h⟩ := HV.out
      simp only [Value.slice.injEq] at e'
      obtain ⟨rfl, -, -⟩ := e'
      rcases h with h | ⟨b, off, rfl, hc⟩
      · subst h; simp at hl
      · have h1 := hc.lt (by intro e; subst e; simp at hl)
        simp only [Value.ownBlock, Option.some.injEq] at e
        have h2 := gr_le G1
        omega
    clear g1
    go_wp2_with fail
    have TD : Told 3 22 (w1.alloc (.cells #[.int .i64 0] 3)) w1.heap.size r s n xs 64 [Value.pointer (some ⟨w1.heap.size, 0, none⟩)] (SumJ 3 w1.heap.size (drawnAt r s n xs)) := by
      refine sum_told (by simp) fun k a hk hB => ?_
      obtain ⟨-, b2, b3, b4, -⟩ := HD.out k hk
      have bs := sum_bd400 (f := drawnAt r s n xs) (fun i hi => by have := HD.out i hi; first | exact this.2.2.1 | exact this.2.2.2.1 | exact dry_bd _ _ _ _ _) hl.2 (k := k) (by omega)
      exact sum_taken hB bs b2 b3 b4
    refine (run_one r s n _ _ _ _ _ HV1.out HY.out hvb.out _ (by decide) (by decide) TD (blk_new _ _ _) (enterK Try.func64 (by kernel_rfl) rfl)).mono ?_
    rintro e w2 ⟨rfl, hJ, hG⟩
    have cJ := Go.Joins.cell_of_block hJ 0
    simp at cJ
    have HG2 := hid (gr_trans (gr_alloc G1 _) hG (fun j e => by cases e; exact .inr (gr_le G1)))
    clear hJ hG TD
    go_wp2
    go_ret
    exact ⟨rfl, HG2.out⟩
theorem implDryDays_any {v : Value} {xs : List Int} (r s n : Int) (w : World) (hv : Ints w v xs) :
    Calls Try.prog 35 #[.agg #[.int .i64 r, .int .i64 s, v, .int .i64 n]] w fun e w' => e = .returned (.int .i64 (dryV r s n xs)) ∧ Gr w w' none := by
  have HV := hid hv
  obtain ⟨_, a, cap, rfl, hcap, hmax, hat⟩ := hv
  clear hat
  cases hy : yearB r s xs n
  · rw [show dryV r s n xs = -1 from by simp [dryV, hy]]
    have HY := hid hy
    clear hy
    go_enter Try.func35, Try.ntmps35
    go_wp2_with fail
    refine (yearOk_any _ _ _ _ (HV.out.on (gr_alloc (gr_refl _ _) _))).mono ?_
    rw [HY.out]
    rintro e w1 ⟨rfl, g1⟩
    go_wp2
    go_ret
    exact ⟨rfl, (by repeat (first | (with_reducible exact gr_refl _ _) | (with_reducible assumption) | (with_reducible refine gr_drew ?_) | (with_reducible refine gr_drewN ?_ _) | (with_reducible refine gr_alloc ?_ _) | (with_reducible refine gr_set ?_ (.inr (by simp; done)) _) | (with_reducible refine gr_set ?_ (.inr (by simp; omega)) _) | (with_reducible refine gr_then ?_ (by with_reducible assumption))))⟩
  · rw [show dryV r s n xs = sumF (dryAt r s n xs) xs.length from by simp [dryV, hy]]
    obtain ⟨-, -, hl, -, -⟩ := yearB_parts hy
    have HY := hid hy
    have HD := hid (fun k (hk : k < xs.length) => day_bd hy hk)
    have hmf : ∀ (fn : Fn) (first cap : Array Value) (w : World), (Instr.makeFunc fn first cap).run Try.prog w = .ok (.func fn first cap) w := fun _ _ _ _ => rfl
    clear hy
    go_enter Try.func35, Try.ntmps35
    go_wp2_with fail
    refine (yearOk_any _ _ _ _ (HV.out.on (gr_alloc (gr_refl _ _) _))).mono ?_
    rw [HY.out]
    rintro e w1 ⟨rfl, g1⟩
    have G1 : Gr w w1 none := gr_then (gr_alloc (gr_refl _ _) _) g1
    obtain ⟨p0, p1, p2, p3, lA⟩ := (yBox_new w 27 r s (.slice a xs.length cap) n).on g1
    have HV1 := hid (HV.out.on (gr_alloc G1 (.cells #[.int .i64 0] 3)))
    have hvb : Hid ((Value.slice a xs.length cap).ownBlock ≠ some w1.heap.size) := by
      intro e
      obtain ⟨_, a', c', e', _, _, h⟩ := HV.out
      simp only [Value.slice.injEq] at e'
      obtain ⟨rfl, -, -⟩ := e'
      rcases h with h | ⟨b, off, rfl, hc⟩
      · subst h; simp at hl
      · have h1 := hc.lt (by intro e; subst e; simp at hl)
        simp only [Value.ownBlock, Option.some.injEq] at e
        have h2 := gr_le G1
        omega
    clear g1
    go_wp2_with fail
    have TD : Told 3 22 (w1.alloc (.cells #[.int .i64 0] 3)) w1.heap.size r s n xs 65 [Value.pointer (some ⟨w1.heap.size, 0, none⟩)] (SumJ 3 w1.heap.size (dryAt r s n xs)) := by
      refine sum_told (by simp) fun k a hk hB => ?_
      obtain ⟨-, b2, b3, b4, -⟩ := HD.out k hk
      have bs := sum_bd400 (f := dryAt r s n xs) (fun i hi => by have := HD.out i hi; first | exact this.2.2.1 | exact this.2.2.2.1 | exact dry_bd _ _ _ _ _) hl.2 (k := k) (by omega)
      exact sum_dry hB bs b2 b3 b4
    refine (run_one r s n _ _ _ _ _ HV1.out HY.out hvb.out _ (by decide) (by decide) TD (blk_new _ _ _) (enterK Try.func65 (by kernel_rfl) rfl)).mono ?_
    rintro e w2 ⟨rfl, hJ, hG⟩
    have cJ := Go.Joins.cell_of_block hJ 0
    simp at cJ
    have HG2 := hid (gr_trans (gr_alloc G1 _) hG (fun j e => by cases e; exact .inr (gr_le G1)))
    clear hJ hG TD
    go_wp2
    go_ret
    exact ⟨rfl, HG2.out⟩
end Go.Proofs.Ytmnfainepmnpeaa
