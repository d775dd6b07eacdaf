/- A drawn chain is in order. -/
import Derived.Test.YtbmgmolnknnaiaaDraw
import Derived.Test.YtbmgmolnknnaiaaChainsP
import Derived.Test.YtbmgmolnknnaiaaPin1
import Derived.Deep.DeepCutAuto
namespace Go.Proofs.Ytbmgmolnknnaiaa
open Go.RowKit

theorem pcells_snoc (ps : List (Int × Int)) (q : Int × Int) : pcells (ps ++ [q]) = pcells ps ++ [.int .i64 q.1, .int .i64 q.2] := by simp [pcells]
theorem new_pair (w : World) (x y : Value) (t : TypeId) : ∀ j u, [x, y][j]? = some u → (w.alloc (.cells #[x, y] t)).cell? ((⟨w.heap.size, 0, none⟩ : Addr).add j) = some u := by
  intro j u hj
  match j, hj with
  | 0, hj => simp at hj; subst hj; simp [Addr.add]
  | 1, hj => simp at hj; subst hj; simp [Addr.add]
  | j + 2, hj => simp at hj
theorem two_int (x y : Int) : ∀ u ∈ [Value.int .i64 x, Value.int .i64 y], u.oneCell' = true := by
  intro u hu; simp at hu; rcases hu with rfl | rfl <;> rfl
/-- Block B holds these cells. -/
def Blq (w : World) (B : Nat) (cs : Array Value) (T : TypeId) : Prop := w.heap[B]? = some (.cells cs T (0, 0))
theorem Blq.kept {a b : World} {B : Nat} {cs : Array Value} {T : TypeId} {r : Option Nat} (h : Blq a B cs T) (hg : Gr a b r) (hr : r ≠ some B) : Blq b B cs T := (hg.block B (lt_of_block h) (fun e => hr e.symm)).trans h
theorem blq_new (w : World) (cs : Array Value) (T : TypeId) : Blq (w.alloc (.cells cs T)) w.heap.size cs T := heap_alloc_new _ _
theorem blq_set {a : World} {B : Nat} {T : TypeId} {x0 x1 y0 y1 : Value} (h : Blq a B #[y0, y1] T) : Blq ((a.setCell ⟨B, 0, none⟩ x0).setCell ⟨B, 1, none⟩ x1) B #[x0, x1] T := by
  have b0 := Go.Joins.block_setCell h (i := 0) x0
  have b1 := Go.Joins.block_setCell b0 (i := 1) x1
  unfold Blq
  simpa using b1
theorem cells2 {w : World} {B : Nat} {T : TypeId} {x0 x1 : Value} (h : Blq w B #[x0, x1] T) : w.cell? ⟨B, 0, none⟩ = some x0 ∧ w.cell? ⟨B, 1, none⟩ = some x1 ∧ w.frozen? ⟨B, 0, none⟩ = false ∧ w.frozen? ⟨B, 1, none⟩ = false := by
  have m0 := Go.Joins.cell_of_block h 0
  have m1 := Go.Joins.cell_of_block h 1
  simp only [List.getElem?_toArray, List.getElem?_cons_zero, List.getElem?_cons_succ] at m0 m1
  exact ⟨m0, m1, Go.Joins.unfrozen_of_block h 0, Go.Joins.unfrozen_of_block h 1⟩
def RetCs (T : TypeId) (w : World) (C : Nat) (e : Ending) (w' : World) : Prop := ∃ r l : Int, e = .returned (.agg #[.int .i64 r, .int .i64 l]) ∧ (1 ≤ r ∧ r ≤ 250) ∧ (0 ≤ l ∧ l ≤ r) ∧ Cur T w' C ∧ Gr w w' (some C)
theorem l04Cistern_any {C : Nat} (w : World) (h : Cur 63 w C) : Calls Try.prog 30 #[.pointer (some ⟨C, 0, none⟩)] w (RetCs 63 w C) := by
  have hC := h.lt
  have HC := hid hC
  have HA := hid (h.on (gr_alloc (gr_refl w none) (.cells #[.int .i64 0, .int .i64 0] 24)))
  have B0 := hid (blq_new w #[.int .i64 0, .int .i64 0] 24)
  clear h hC
  go_enter Try.func30, Try.ntmps30
  go_wp2_with fail
  refine (l01Below_any _ _ HA.out (by omega) (by omega)).mono ?_
  rintro e w1 ⟨r, r1, r2, rfl, hc1, g1⟩
  have B1 := hid (B0.out.kept g1 (by have := HC.out; simp; omega))
  have G1 := hid (gr_same (gr_mono (gr_alloc (gr_refl w none) _)) g1)
  clear g1 B0 HA
  go_wp2_with fail
  refine (l01Below_any _ _ hc1 (by omega) (by omega)).mono ?_
  rintro e w2 ⟨l, l1, l2, rfl, hc2, g2⟩
  have B2 := B1.out.kept g2 (by have := HC.out; simp; omega)
  have G2 := hid (gr_same G1.out g2)
  obtain ⟨_, _, f0, f1⟩ := cells2 B2
  obtain ⟨m0, m1, _, _⟩ := cells2 (blq_set (x0 := .int .i64 (1 + r)) (x1 := .int .i64 l) B2)
  have hCl := HC.out
  have HE := hid (And.intro (Cur.kept (r := some w.heap.size) (Cur.kept (r := some w.heap.size) hc2 (gr_set (p := ⟨w.heap.size, 0, none⟩) (gr_refl _ _) (.inl rfl) (.int .i64 (1 + r))) (by intro j e; cases e; exact hCl)) (gr_set (p := ⟨w.heap.size, 1, none⟩) (gr_refl _ _) (.inl rfl) (.int .i64 l)) (by intro j e; cases e; exact hCl)) (gr_set (gr_set G2.out (p := ⟨w.heap.size, 0, none⟩) (.inr (by simp)) (.int .i64 (1 + r))) (p := ⟨w.heap.size, 1, none⟩) (.inr (by simp)) (.int .i64 l)))
  clear hc1 hc2 g2 B1 G1 B2 G2 HC
  go_wp2
  exact bodyPost_ret (v := .agg #[.int .i64 (1 + r), .int .i64 l]) (by simp [results, Try.results30, go_sem, m0, m1]) rfl ⟨_, _, rfl, by omega, by omega, HE.out⟩
theorem Blq.lt {w : World} {B : Nat} {cs : Array Value} {T : TypeId} (h : Blq w B cs T) : B < w.heap.size := lt_of_block h
theorem blq_other {a : World} {B B' o : Nat} {cs : Array Value} {T : TypeId} {u : Value} (h : Blq a B cs T) (hn : B ≠ B') : Blq (a.setCell ⟨B', o, none⟩ u) B cs T :=
  h.kept (gr_set (p := ⟨B', o, none⟩) (gr_refl a (some B')) (.inl rfl) u) (by simp; exact Ne.symm hn)
theorem own_ne_blq {w : World} {B B' s n : Nat} {E U : TypeId} {v : Value} {xs : List Value} {cs : Array Value} (h : w.ownsRow B E s v n xs) (hb : Blq w B' cs U) (hU : U ≠ E) : v.ownBlock ≠ some B' := by
  rcases h.2 with ⟨rfl, _⟩ | ⟨g, cap, cur, rfl, _, hg, _⟩
  · simp [Value.ownBlock]
  · intro e
    simp only [Value.ownBlock, Option.some.injEq] at e
    subst e
    unfold Blq at hb
    rw [hb] at hg
    simp only [Option.some.injEq, Obj.cells.injEq] at hg
    exact hU hg.2.1
theorem own_setq {w : World} {B B' sz n : Nat} {E U : TypeId} {v : Value} {xs : List Value} {cs : Array Value} (h : w.ownsRow B E sz v n xs) (hb : Blq w B' cs U) (hU : U ≠ E) (o : Nat) (u : Value) : (w.setCell ⟨B', o, none⟩ u).ownsRow B E sz v n xs :=
  h.kept (row := some B') (gr_set (p := ⟨B', o, none⟩) (gr_refl w (some B')) (.inl rfl) u) (by
    have hne := own_ne_blq h hb hU
    cases hv : v.ownBlock with
    | none => exact .inl rfl
    | some k => right; intro e; cases e; exact hne hv)
theorem own_cur {w w' : World} {B C sz n : Nat} {E : TypeId} {v : Value} {xs : List Value} (h : w.ownsRow B E sz v n xs) (hg : Gr w w' (some C)) (hC : C < B) : w'.ownsRow B E sz v n xs :=
  h.kept hg (by
    cases hv : v.ownBlock with
    | none => exact .inl rfl
    | some k => right; intro e; cases e; have := (h.lt _ hv).1; omega)
theorem cur_set {T : TypeId} {w : World} {C B o : Nat} (h : Cur T w C) (hB : C < B) (u : Value) : Cur T (w.setCell ⟨B, o, none⟩ u) C := h.kept (r := some B) (gr_set (gr_refl _ _) (.inl rfl) _) (by intro j e; cases e; exact hB)
theorem blq_s0 {a : World} {B : Nat} {T : TypeId} {x0 x1 : Value} (h : Blq a B #[x0, x1] T) (y : Value) : Blq (a.setCell ⟨B, 0, none⟩ y) B #[y, x1] T := by
  have b := Go.Joins.block_setCell h (i := 0) y
  unfold Blq
  simpa using b
theorem blq_s1 {a : World} {B : Nat} {T : TypeId} {x0 x1 : Value} (h : Blq a B #[x0, x1] T) (y : Value) : Blq (a.setCell ⟨B, 1, none⟩ y) B #[x0, y] T := by
  have b := Go.Joins.block_setCell h (i := 1) y
  unfold Blq
  simpa using b
/-- A chain in the making: its box, the result's box behind it, the rows that its fields name, the cursor. -/
structure DInv (PT IT T CT : TypeId) (w : World) (C : Nat) (u v : Value) (k j : Nat) (pl xl : List Value) (W : World) : Prop where
  op : W.ownsRow w.heap.size PT 2 u k pl
  ov : W.ownsRow w.heap.size IT 1 v j xl
  box : Blq W (w.heap.size + 1) #[u, v] T
  res : Blq W w.heap.size #[.slice none 0 0, .slice none 0 0] T
  cur : Cur CT W C
  gr : Gr w W (some C)
variable {PT IT T CT : TypeId} {w W W' : World} {C k j : Nat} {u v : Value} {pl xl : List Value}
theorem DInv.draw (h : DInv PT IT T CT w C u v k j pl xl W) (hg : Gr W W' (some C)) (hc : Cur CT W' C) (hC : C < w.heap.size) : DInv PT IT T CT w C u v k j pl xl W' :=
  ⟨own_cur h.op hg hC, own_cur h.ov hg hC, h.box.kept hg (by simp; omega), h.res.kept hg (by simp; omega), hc, gr_same h.gr hg⟩
theorem DInv.al (h : DInv PT IT T CT w C u v k j pl xl W) (o : Obj) : DInv PT IT T CT w C u v k j pl xl (W.alloc o) :=
  ⟨h.op.alloc o, h.ov.alloc o, h.box.kept (gr_alloc (gr_refl _ none) _) (by simp), h.res.kept (gr_alloc (gr_refl _ none) _) (by simp), h.cur.on (gr_alloc (gr_refl _ _) _), gr_alloc h.gr _⟩
theorem DInv.app1 (h : DInv PT IT T CT w C u v k j pl xl W) (hC : C < w.heap.size) (h1 : PT ≠ IT) (h2 : T ≠ PT) (h3 : T ≠ IT) {u' : Value} {k' : Nat} {pl' : List Value} (ho : W'.ownsRow w.heap.size PT 2 u' k' pl') (hg : Gr W W' u.ownBlock) :
    Blq W' (w.heap.size + 1) #[u, v] T ∧ DInv PT IT T CT w C u' v k' j pl' xl (W'.setCell ⟨w.heap.size + 1, 0, none⟩ u') := by
  have hlo : ∀ i, u.ownBlock = some i → w.heap.size ≤ i := fun i e => (h.op.lt i e).1
  have hb := h.box.kept hg (own_ne_blq h.op h.box h2)
  have hr := h.res.kept hg (own_ne_blq h.op h.res h2)
  have hv := h.ov.kept hg (apart_types h.ov h.op (Ne.symm h1))
  exact ⟨hb, own_setq ho hb h2 _ _, own_setq hv hb h3 _ _, blq_s0 hb _, blq_other hr (by omega), cur_set (h.cur.kept hg (fun i e => by have := hlo i e; omega)) (by omega) _, gr_set (gr_trans h.gr hg (fun i e => .inr (hlo i e))) (p := ⟨w.heap.size + 1, 0, none⟩) (.inr (by simp)) _⟩
theorem DInv.app2 (h : DInv PT IT T CT w C u v k j pl xl W) (hC : C < w.heap.size) (h1 : PT ≠ IT) (h2 : T ≠ PT) (h3 : T ≠ IT) {v' : Value} {j' : Nat} {xl' : List Value} (ho : W'.ownsRow w.heap.size IT 1 v' j' xl') (hg : Gr W W' v.ownBlock) :
    Blq W' (w.heap.size + 1) #[u, v] T ∧ DInv PT IT T CT w C u v' k j' pl xl' (W'.setCell ⟨w.heap.size + 1, 1, none⟩ v') := by
  have hlo : ∀ i, v.ownBlock = some i → w.heap.size ≤ i := fun i e => (h.ov.lt i e).1
  have hb := h.box.kept hg (own_ne_blq h.ov h.box h3)
  have hr := h.res.kept hg (own_ne_blq h.ov h.res h3)
  have hu := h.op.kept hg (apart_types h.op h.ov h1)
  exact ⟨hb, own_setq hu hb h2 _ _, own_setq ho hb h3 _ _, blq_s1 hb _, blq_other hr (by omega), cur_set (h.cur.kept hg (fun i e => by have := hlo i e; omega)) (by omega) _, gr_set (gr_trans h.gr hg (fun i e => .inr (hlo i e))) (p := ⟨w.heap.size + 1, 1, none⟩) (.inr (by simp)) _⟩
/-! ### The drawn chain, with no program in sight -/
def SmallC (q : Int × Int) : Prop := (1 ≤ q.1 ∧ q.1 ≤ 250) ∧ 0 ≤ q.2 ∧ q.2 ≤ q.1
def UpTo (xs : List Int) (n : Int) : Prop := ∀ i, i < xs.length → gi xs i = -1 ∨ ((i : Int) < gi xs i ∧ gi xs i < n)
theorem upTo_snoc {xs : List Int} {n z : Int} (h : UpTo xs n) (hz : z = -1 ∨ ((xs.length : Int) < z ∧ z < n)) : UpTo (xs ++ [z]) n := by
  intro i hi
  rw [List.length_append, List.length_singleton] at hi
  by_cases e : i = xs.length
  · have : gi (xs ++ [z]) i = z := by subst e; simp [gi]
    rw [this, e]; exact hz
  · have : gi (xs ++ [z]) i = gi xs i := by simp [gi, List.getD, List.getElem?_append_left (show i < xs.length by omega)]
    rw [this]; exact h i (by omega)
theorem up_way {xs : List Int} {n : Int} (h : UpTo xs n) (k : Nat) : ∀ t, wayAt xs k (t + 1) = -1 ∨ (k : Int) < wayAt xs k (t + 1) := by
  intro t
  have step : ∀ a : Int, (k : Int) ≤ a → nx xs a = -1 ∨ (k : Int) < nx xs a := fun a ha => by
    unfold nx
    split
    · have := h a.toNat (by omega); omega
    · exact .inl rfl
  induction t with
  | zero => exact step _ (Int.le_refl _)
  | succ t ih =>
    rcases ih with e | e
    · left; show nx xs _ = -1; rw [e]; rfl
    · exact step _ (by omega)
theorem up_circ {xs : List Int} {n : Int} (h : UpTo xs n) : circL xs = [] := by
  have hb : ∀ k, backTo xs k xs.length = false := fun k => backTo_false _ fun t ht _ => by
    obtain ⟨t, rfl⟩ : ∃ t', t = t' + 1 := ⟨t - 1, by omega⟩
    have := up_way h k t
    omega
  have hc : ∀ k, circTo xs k = [] := by
    intro k
    induction k with
    | zero => rfl
    | succ k ih => unfold circTo; rw [hb k]; simpa using ih
  unfold circL
  rw [hc]; simp
theorem drawn_ok {ps : List (Int × Int)} {xs : List Int} (h1 : 1 ≤ ps.length) (h2 : ps.length ≤ 6) (hl : xs.length = ps.length) (hp : ∀ q ∈ ps, SmallC q) (hx : UpTo xs ps.length) : chainB ps xs = true := by
  have ha : allB xs (-1) (ps.length - 1) = true := allB_mk fun i hi => by have := hx i hi; exact inB_mk (by omega)
  have hc : cistAll ps = true := cistAll_mk fun i hi => by
    have := hp _ (gp_mem hi)
    unfold SmallC at this
    rw [cistB, inB_mk (by omega), inB_mk (by omega)]; rfl
  rw [chainB, ha, hc, up_circ hx, inB_mk (by omega)]
  simp [hl]
end Go.Proofs.Ytbmgmolnknnaiaa
