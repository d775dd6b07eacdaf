/- The copy of a net; a net turned; a net without a pipe: walks. -/
import Derived.Test.YtbkpphcmdjllnaaMembers
import Derived.Test.YtbkpphcmdjllnaaAppAny
import Derived.Test.YtbkpphcmdjllnaaDraw
import Derived.Deep.RegionHeld3
namespace Go.Proofs.Ytbkpphcmdjllnaa
open Go.RowKit

/-- Block B holds these cells. -/
def Blq (w : World) (B : Nat) (cs : Array Value) (T : TypeId) : Prop := w.heap[B]? = some (.cells cs T (0, 0))
theorem Blq.kept {a b : World} {B : Nat} {cs : Array Value} {T : TypeId} {r : Option Nat} (h : Blq a B cs T) (hg : Gr a b r) (hr : r ≠ some B) : Blq b B cs T := (hg.block B (lt_of_block h) (fun e => hr e.symm)).trans h
theorem blq_new (w : World) (cs : Array Value) (T : TypeId) : Blq (w.alloc (.cells cs T)) w.heap.size cs T := heap_alloc_new _ _
theorem blq_set {a : World} {B : Nat} {T : TypeId} {x0 x1 y0 y1 : Value} (h : Blq a B #[y0, y1] T) : Blq ((a.setCell ⟨B, 0, none⟩ x0).setCell ⟨B, 1, none⟩ x1) B #[x0, x1] T := by
  have b0 := Go.Joins.block_setCell h (i := 0) x0
  have b1 := Go.Joins.block_setCell b0 (i := 1) x1
  unfold Blq
  simpa using b1
theorem cells2 {w : World} {B : Nat} {T : TypeId} {x0 x1 : Value} (h : Blq w B #[x0, x1] T) : w.cell? ⟨B, 0, none⟩ = some x0 ∧ w.cell? ⟨B, 1, none⟩ = some x1 ∧ w.frozen? ⟨B, 0, none⟩ = false ∧ w.frozen? ⟨B, 1, none⟩ = false := by
  have m0 := Go.Joins.cell_of_block h 0
  have m1 := Go.Joins.cell_of_block h 1
  simp only [List.getElem?_toArray, List.getElem?_cons_zero, List.getElem?_cons_succ] at m0 m1
  exact ⟨m0, m1, Go.Joins.unfrozen_of_block h 0, Go.Joins.unfrozen_of_block h 1⟩
theorem Blq.lt {w : World} {B : Nat} {cs : Array Value} {T : TypeId} (h : Blq w B cs T) : B < w.heap.size := lt_of_block h
theorem blq_other {a : World} {B B' o : Nat} {cs : Array Value} {T : TypeId} {u : Value} (h : Blq a B cs T) (hn : B ≠ B') : Blq (a.setCell ⟨B', o, none⟩ u) B cs T :=
  h.kept (gr_set (p := ⟨B', o, none⟩) (gr_refl a (some B')) (.inl rfl) u) (by simp; exact Ne.symm hn)
theorem own_ne_blq {w : World} {B B' s n : Nat} {E U : TypeId} {v : Value} {xs : List Value} {cs : Array Value} (h : w.ownsRow B E s v n xs) (hb : Blq w B' cs U) (hU : U ≠ E) : v.ownBlock ≠ some B' := by
  rcases h.2 with ⟨rfl, _⟩ | ⟨g, cap, cur, rfl, _, hg, _⟩
  · simp [Value.ownBlock]
  · intro e
    simp only [Value.ownBlock, Option.some.injEq] at e
    subst e
    unfold Blq at hb
    rw [hb] at hg
    simp only [Option.some.injEq, Obj.cells.injEq] at hg
    exact hU hg.2.1
theorem own_setq {w : World} {B B' sz n : Nat} {E U : TypeId} {v : Value} {xs : List Value} {cs : Array Value} (h : w.ownsRow B E sz v n xs) (hb : Blq w B' cs U) (hU : U ≠ E) (o : Nat) (u : Value) : (w.setCell ⟨B', o, none⟩ u).ownsRow B E sz v n xs :=
  h.kept (row := some B') (gr_set (p := ⟨B', o, none⟩) (gr_refl w (some B')) (.inl rfl) u) (by
    have hne := own_ne_blq h hb hU
    cases hv : v.ownBlock with
    | none => exact .inl rfl
    | some k => right; intro e; cases e; exact hne hv)
theorem own_cur {w w' : World} {B C sz n : Nat} {E : TypeId} {v : Value} {xs : List Value} (h : w.ownsRow B E sz v n xs) (hg : Gr w w' (some C)) (hC : C < B) : w'.ownsRow B E sz v n xs :=
  h.kept hg (by
    cases hv : v.ownBlock with
    | none => exact .inl rfl
    | some k => right; intro e; cases e; have := (h.lt _ hv).1; omega)
theorem cur_set {T : TypeId} {w : World} {C B o : Nat} (h : Cur T w C) (hB : C < B) (u : Value) : Cur T (w.setCell ⟨B, o, none⟩ u) C := h.kept (r := some B) (gr_set (gr_refl _ _) (.inl rfl) _) (by intro j e; cases e; exact hB)
theorem blq_s0 {a : World} {B : Nat} {T : TypeId} {x0 x1 : Value} (h : Blq a B #[x0, x1] T) (y : Value) : Blq (a.setCell ⟨B, 0, none⟩ y) B #[y, x1] T := by
  have b := Go.Joins.block_setCell h (i := 0) y
  unfold Blq
  simpa using b
theorem blq_s1 {a : World} {B : Nat} {T : TypeId} {x0 x1 : Value} (h : Blq a B #[x0, x1] T) (y : Value) : Blq (a.setCell ⟨B, 1, none⟩ y) B #[x0, y] T := by
  have b := Go.Joins.block_setCell h (i := 1) y
  unfold Blq
  simpa using b
theorem set_other {w : World} {p q : Addr} {u v : Value} (hn : q ≠ p) (h : w.cell? p = some u) : (w.setCell q v).cell? p = some u := (World.cell?_setCell_other _ _ _ _ hn).trans h
theorem Trips.src {w : World} {v : Value} {ps : List Tri} (h : Trips w v ps) : SrcC w 3 v ps.length (tcells ps) := by
  obtain ⟨_, a, cap, rfl, _, _, hat⟩ := h
  refine ⟨tcells_length ps, by intro u hu; simp [tcells] at hu; obtain ⟨x, y, z, _, h | h | h⟩ := hu <;> subst h <;> rfl, ?_⟩
  cases a with
  | none =>
    rcases hat with rfl | ⟨b, off, e, _⟩
    · exact .inr ⟨rfl, _, rfl⟩
    · cases e
  | some ad =>
    refine .inl ⟨ad, cap, rfl, fun j u hu => ?_⟩
    rcases hat with rfl | ⟨b, off, e, hc⟩
    · simp [tcells] at hu
    · cases e
      have hj : j < ps.length * 3 := by
        rcases Nat.lt_or_ge j (ps.length * 3) with h | h
        · exact h
        · rw [List.getElem?_eq_none (by rw [tcells_length]; exact h)] at hu; cases hu
      have hi : j / 3 < ps.length := by omega
      obtain ⟨c1, c2, c3⟩ := hc (j / 3) hi
      obtain ⟨d1, d2, d3⟩ := tcells_get ps (j / 3) hi
      rcases mod3 j with h | h | h
      · rw [show j / 3 * 3 = j by omega] at d1
        rw [show off + j / 3 * 3 = off + j by omega] at c1
        rw [d1] at hu; cases hu
        by_cases h0 : j = 0
        · subst h0; simpa [Addr.add] using c1
        · simpa [Addr.add, h0] using c1
      · rw [show j / 3 * 3 + 1 = j by omega] at d2
        rw [show off + j / 3 * 3 + 1 = off + j by omega] at c2
        rw [d2] at hu; cases hu
        have h0 : ¬ j = 0 := by omega
        simpa [Addr.add, h0] using c2
      · rw [show j / 3 * 3 + 2 = j by omega] at d3
        rw [show off + j / 3 * 3 + 2 = off + j by omega] at c3
        rw [d3] at hu; cases hu
        have h0 : ¬ j = 0 := by omega
        simpa [Addr.add, h0] using c3
theorem sl_ownT {w : World} {B : Nat} {E : TypeId} {v : Value} {ps : List Tri} (h : OwnT E w B v ps) : ∃ a c, v = .slice a ps.length c := sl_own' h.2
theorem copyNet_any {u : Value} {ts : List Tri} (n : Int) (w : World) (hu : Trips w u ts) (hl : ts.length ≤ 1048576) :
    Calls Try.prog 32 #[.agg #[.int .i64 n, u]] w (RetNt 45 w n ts) := by
  have HU := hid hu
  obtain ⟨h64, a, cap, rfl, _, _, hat⟩ := hu
  have H64 := hid h64
  obtain ⟨i0, hi, hz0, hz1, hz2⟩ := info_parts info_pipe
  clear hat h64
  have hR : Blq ((w.alloc (.cells #[.int .i64 n, .slice a ts.length cap] 29)).alloc (.cells #[.int .i64 0, .slice none 0 0] 29)) (w.heap.size + 1) #[.int .i64 0, .slice none 0 0] 29 := by have := blq_new (w.alloc (.cells #[.int .i64 n, .slice a ts.length cap] 29)) #[.int .i64 0, .slice none 0 0] 29; simpa using this
  have HRB := hid hR
  have HON : Hid (∀ W : World, Gr ((w.alloc (.cells #[.int .i64 n, .slice a ts.length cap] 29)).alloc (.cells #[.int .i64 0, .slice none 0 0] 29)) W none → (W.cell? ⟨w.heap.size, 0, none⟩ = some (.int .i64 n) ∧ W.cell? ⟨w.heap.size, 1, none⟩ = some (.slice a ts.length cap) ∧ Gr w W none)) := fun W g => ⟨cell_on g (by simp [go_sem]), cell_on g (by simp [go_sem]), gr_then (gr_alloc (gr_alloc (gr_refl _ _) _) _) g⟩
  have HSET : Hid (∀ (W : World) (x y : Value), (W.cell? ⟨w.heap.size, 0, none⟩ = some (.int .i64 n) ∧ W.cell? ⟨w.heap.size, 1, none⟩ = some (.slice a ts.length cap) ∧ Gr w W none) → (((W.setCell ⟨w.heap.size + 1, 0, none⟩ x).setCell ⟨w.heap.size + 1, 1, none⟩ y).cell? ⟨w.heap.size, 0, none⟩ = some (.int .i64 n) ∧ ((W.setCell ⟨w.heap.size + 1, 0, none⟩ x).setCell ⟨w.heap.size + 1, 1, none⟩ y).cell? ⟨w.heap.size, 1, none⟩ = some (.slice a ts.length cap) ∧ Gr w ((W.setCell ⟨w.heap.size + 1, 0, none⟩ x).setCell ⟨w.heap.size + 1, 1, none⟩ y) none)) := fun W x y hh =>
    ⟨set_other (by simp) (set_other (by simp) hh.1), set_other (by simp) (set_other (by simp) hh.2.1), gr_set (gr_set hh.2.2 (.inr (by simp)) _) (.inr (by simp)) _⟩
  have HGU : Hid (Gr w ((w.alloc (.cells #[.int .i64 n, .slice a ts.length cap] 29)).alloc (.cells #[.int .i64 0, .slice none 0 0] 29)).drew none) := gr_drew (gr_alloc (gr_alloc (gr_refl _ _) _) _)
  clear hR
  go_enter Try.func32, Try.ntmps32
  go_wp2_with fail
  refine wp_region_noPanic ?_
  refine wp_region_held_drew (S := fun w' => w'.cell? ⟨w.heap.size, 0, none⟩ = some (.int .i64 n) ∧ w'.cell? ⟨w.heap.size, 1, none⟩ = some (.slice a ts.length cap) ∧ Gr w w' none) (by kernel_rfl) (HON.out _ (gr_drew (gr_refl _ _))) (fun hHeld => ?_)
  (refine wpAnyH_take (i := 0) (v := ?_) rfl (by kernel_rfl) (by kernel_rfl) (by kernel_rfl) (fun _ _ _ h => h) (Or.inl ⟨by rfl, ?_⟩) (by assumption) ?_; rotate_left; · (intro w hSw; (try dsimp only at hSw); go_simp <;> with_reducible rfl); try simp only [Act.put, List.setIfInBounds_toArray, List.set_cons_zero, List.set_cons_succ])
  (refine wpAnyH_take (i := 1) (v := ?_) rfl (by kernel_rfl) (by kernel_rfl) (by kernel_rfl) (fun _ _ _ h => h) (Or.inl ⟨by rfl, ?_⟩) (by assumption) ?_; rotate_left; · (intro w hSw; (try dsimp only at hSw); go_simp <;> with_reducible rfl); try simp only [Act.put, List.setIfInBounds_toArray, List.set_cons_zero, List.set_cons_succ])
  (refine wpAnyH_take (i := 2) (v := ?_) rfl (by kernel_rfl) (by kernel_rfl) (by kernel_rfl) (fun _ _ _ h => h) (Or.inl ⟨by rfl, ?_⟩) (by assumption) ?_; rotate_left; · (intro w hSw; (try dsimp only at hSw); go_simp <;> with_reducible rfl); try simp only [Act.put, List.setIfInBounds_toArray, List.set_cons_zero, List.set_cons_succ])
  (refine wpAnyH_take (i := 3) (v := ?_) rfl (by kernel_rfl) (by kernel_rfl) (by kernel_rfl) (fun _ _ _ h => h) (Or.inl ⟨by rfl, ?_⟩) (by assumption) ?_; rotate_left; · (intro w hSw; (try dsimp only at hSw); go_simp <;> with_reducible rfl); try simp only [Act.put, List.setIfInBounds_toArray, List.set_cons_zero, List.set_cons_succ])
  refine wpAnyH_ready (rs := [4]) (by kernel_rfl) (by simp) ?_
  refine AllReadyH.cons rfl (fun K hK => ?_) AllReadyH.nil
  refine step_append_srcC _ (by rfl) _ _ _ (by rfl) (w.heap.size + 2) 45 i0 (.agg #[.int .i64 0, .int .i64 0, .int .i64 0]) 3 24 Try.underlying27 hi hz0 hz1 hz2 (by rfl) (by decide) (.slice none 0 0) 0 [] (by rfl) (World.ownsRow_nil _ _ _ _) _ ts.length (tcells ts) (by rfl) ((HU.out.on HGU.out).src) (by unfold maxLen; omega) (by omega) (by simp) ?_
  intro v' w' hown hgrow
  have g5 : Gr ((w.alloc (.cells #[.int .i64 n, .slice a ts.length cap] 29)).alloc (.cells #[.int .i64 0, .slice none 0 0] 29)) w' none := gr_trans (gr_drew (gr_refl _ _)) hgrow (fun j e => by simp [Value.ownBlock] at e)
  rw [Nat.zero_add, List.nil_append] at hown
  obtain ⟨va, vc, rfl⟩ := sl_own' hown
  have BR := HRB.out.kept g5 (by simp)
  refine hK.out _ _ (HON.out _ g5) (fun hHeld => ?_)
  clear hK K
  try simp only [Act.put, List.setIfInBounds_toArray]
  (refine wpAnyH_take (i := 5) (v := ?_) rfl (by kernel_rfl) (by kernel_rfl) (by kernel_rfl) (fun _ _ _ h => h) (Or.inl ⟨by rfl, ?_⟩) (by assumption) ?_; rotate_left; · (intro w hSw; (try dsimp only at hSw); go_simp <;> with_reducible rfl); try simp only [Act.put, List.setIfInBounds_toArray, List.set_cons_zero, List.set_cons_succ])
  obtain ⟨r0, r1, f0, f1⟩ := cells2 BR
  obtain ⟨m0, m1, -, -⟩ := cells2 (blq_set (x0 := .int .i64 n) (x1 := .slice va ts.length vc) BR)
  refine wpAnyH_ready (rs := [6]) (by kernel_rfl) (by simp) ?_
  refine AllReadyH.cons rfl (fun K hK => ?_) AllReadyH.nil
  go_simp
  refine hK.out _ _ (HSET.out _ _ _ (HON.out _ g5)) (fun hHeld => ?_)
  clear hK K
  try simp only [Act.put, List.setIfInBounds_toArray, List.set_cons_zero, List.set_cons_succ]
  refine wpAnyH_done (by kernel_rfl) ?_ _
  refine NoPanic.normal ?_
  have HE : Hid (OwnT 45 ((w'.setCell ⟨w.heap.size + 1, 0, none⟩ (.int .i64 n)).setCell ⟨w.heap.size + 1, 1, none⟩ (.slice va ts.length vc)) w.heap.size (.slice va ts.length vc) ts ∧ Gr w ((w'.setCell ⟨w.heap.size + 1, 0, none⟩ (.int .i64 n)).setCell ⟨w.heap.size + 1, 1, none⟩ (.slice va ts.length vc)) none) :=
    ⟨OwnT.mono (B := w.heap.size + 2) ⟨H64.out, own_setq (own_setq hown BR (by decide) _ _) (blq_s0 BR _) (by decide) _ _⟩ (by omega), (HSET.out _ _ _ (HON.out _ g5)).2.2⟩
  clear hown hgrow g5 BR f0 f1 r0 r1
  go_wp2
  exact bodyPost_ret (v := .agg #[.int .i64 n, .slice va ts.length vc]) (by simp [results, Try.results32, go_sem, m0, m1]) rfl ⟨_, rfl, HE.out⟩
end Go.Proofs.Ytbkpphcmdjllnaa
