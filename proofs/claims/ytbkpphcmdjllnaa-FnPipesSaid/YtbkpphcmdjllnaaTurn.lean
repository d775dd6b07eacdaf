/- A net turned: walk. -/
import Derived.Test.YtbkpphcmdjllnaaNetB
import Derived.Deep.DeepCutAuto
namespace Go.Proofs.Ytbkpphcmdjllnaa
open Go.RowKit

theorem tcells_set2 : ∀ (ps : List Tri) (k : Nat) (x y : Int), ((tcells ps).set (k * 3) (.int .i64 x)).set (k * 3 + 1) (.int .i64 y) = tcells (ps.set k (x, y, (gt ps k).2.2))
  | [], k, x, y => by simp [tcells]
  | q :: l, 0, x, y => rfl
  | q :: l, k + 1, x, y => by
    have := tcells_set2 l k x y
    rw [tcells_cons, show (k + 1) * 3 = k * 3 + 1 + 1 + 1 from by omega]
    simp only [List.set_cons_succ]
    rw [this]
    rfl
/-- The pipes with the first k turned. -/
def turnTo (ts : List Tri) (k : Nat) : List Tri := (List.range ts.length).map fun i => if i < k then turnT (gt ts i) else gt ts i
theorem turnTo_length (ts : List Tri) (k : Nat) : (turnTo ts k).length = ts.length := by simp [turnTo]
theorem turnTo_get {ts : List Tri} {k i : Nat} (h : i < ts.length) : gt (turnTo ts k) i = if i < k then turnT (gt ts i) else gt ts i := by
  rw [gt_lt (by rw [turnTo_length]; exact h)]
  simp [turnTo]
theorem turnTo_zero (ts : List Tri) : turnTo ts 0 = ts := by
  apply List.ext_getElem
  · exact turnTo_length _ _
  · intro i h1 h2
    rw [← gt_lt h1, turnTo_get h2, if_neg (by omega), gt_lt h2]
theorem turnTo_all (ts : List Tri) : turnTo ts ts.length = ts.map turnT := by
  apply List.ext_getElem
  · rw [turnTo_length, List.length_map]
  · intro i h1 h2
    rw [turnTo_length] at h1
    rw [← gt_lt (by rw [turnTo_length]; exact h1), turnTo_get h1, if_pos h1, List.getElem_map, gt_lt h1]
theorem turnTo_set {ts : List Tri} {k : Nat} (_h : k < ts.length) : (turnTo ts k).set k (turnT (gt ts k)) = turnTo ts (k + 1) := by
  apply List.ext_getElem
  · rw [List.length_set, turnTo_length, turnTo_length]
  · intro i h1 h2
    rw [turnTo_length] at h2
    have e0 : ∀ j, (hj : i < (turnTo ts j).length) → (turnTo ts j)[i] = if i < j then turnT (gt ts i) else gt ts i := fun j hj => by
      rw [← gt_lt hj, turnTo_get h2]
    rw [List.getElem_set, e0 (k + 1)]
    by_cases e : k = i
    · subst e; rw [if_pos rfl, if_pos (by omega)]
    · rw [if_neg e, e0 k]
      by_cases e2 : i < k
      · rw [if_pos e2, if_pos (by omega)]
      · rw [if_neg e2, if_neg (by omega)]
theorem turnNet_any {u : Value} {ts : List Tri} (n : Int) (w : World) (hu : Trips w u ts) (hb : netB n ts = true) :
    Calls Try.prog 17 #[.agg #[.int .i64 n, u]] w (RetNt 45 w n (ts.map turnT)) := by
  have HU := hid hu
  obtain ⟨h64, a, cap, rfl, hcap, hmax, hat⟩ := hu
  unfold maxLen at hmax
  have HB := hid hb
  have H64 := hid h64
  have hl := (netB_parts hb).2.1
  have hl20 : (ts.length : Int) ≤ 20 := by omega
  have hR : Blq ((w.alloc (.cells #[.int .i64 n, .slice a ts.length cap] 29)).alloc (.cells #[.int .i64 0, .slice none 0 0] 29)) (w.heap.size + 1) #[.int .i64 0, .slice none 0 0] 29 := by have := blq_new (w.alloc (.cells #[.int .i64 n, .slice a ts.length cap] 29)) #[.int .i64 0, .slice none 0 0] 29; simpa using this
  have hA : Blq ((w.alloc (.cells #[.int .i64 n, .slice a ts.length cap] 29)).alloc (.cells #[.int .i64 0, .slice none 0 0] 29)) w.heap.size #[.int .i64 n, .slice a ts.length cap] 29 := (blq_new w _ _).kept (gr_alloc (gr_refl _ none) _) (by simp)
  have HRB := hid hR
  have HAB := hid hA
  clear hb hR hA h64
  go_enter Try.func17, Try.ntmps17
  go_wp2_with fail
  refine (copyNet_any n _ (HU.out.on (gr_alloc (gr_alloc (gr_refl _ _) _) _)) (by omega)).mono ?_
  rintro e w1 ⟨u1, rfl, o1, g1⟩
  obtain ⟨ua, uc, rfl⟩ := sl_ownT o1
  have o1' := OwnT.mono o1 (B' := w.heap.size + 2) (by simp)
  have R1 := hid ((HRB.out.kept g1 (by simp)).kept (gr_alloc (gr_refl w1 none) (.cells #[.int .i64 n, .slice ua ts.length uc] 29)) (by simp))
  have A1 := hid ((HAB.out.kept g1 (by simp)).kept (gr_alloc (gr_refl w1 none) (.cells #[.int .i64 n, .slice ua ts.length uc] 29)) (by simp))
  have D1 := hid (blq_new w1 #[.int .i64 n, .slice ua ts.length uc] 29)
  have O1 := hid (o1'.on (gr_alloc (gr_refl w1 none) (.cells #[.int .i64 n, .slice ua ts.length uc] 29)))
  have G1 := hid (gr_alloc (gr_then (gr_alloc (gr_alloc (gr_refl w none) _) _) g1) (.cells #[.int .i64 n, .slice ua ts.length uc] 29))
  have hz1 : w.heap.size + 2 ≤ w1.heap.size := by have := gr_le g1; simp at this; omega
  clear g1 o1 o1' HRB HAB
  obtain ⟨a0, a1, -, -⟩ := cells2 A1.out
  go_wp2_with fail
  refine (netOk_any _ _ (HU.out.on G1.out)).mono ?_
  rw [HB.out]
  rintro e w2 ⟨rfl, g2⟩
  have R2 := hid (R1.out.kept g2 (by simp))
  have A2 := A1.out.kept g2 (by simp)
  have D2 := hid (D1.out.kept g2 (by simp))
  have O2 := O1.out.on g2
  have G2 := hid (gr_then G1.out g2)
  have hz2 : w1.heap.size < w2.heap.size := D2.out.lt
  obtain ⟨b0, b1, -, -⟩ := cells2 A2
  rw [← turnTo_zero ts] at O2
  have HO2 := hid O2.2
  rw [turnTo_length] at HO2
  clear g2 a0 a1 A1 A2 R1 D1 O1 O2 G1
  go_wp2_with fail
  go_loopw [4, 5, 15] (fun _ _ i wr => ∃ k : Nat, k ≤ ts.length ∧ i = .int .i64 k ∧ wr.ownsRow (w.heap.size + 2) 45 3 (.slice ua ts.length uc) ts.length (tcells (turnTo ts k)) ∧ Blq wr (w.heap.size + 1) #[.int .i64 0, .slice none 0 0] 29 ∧ Blq wr w1.heap.size #[.int .i64 n, .slice ua ts.length uc] 29 ∧ Gr w wr none) (fun _ _ i _ => ts.length - (intOf i).toNat)
  case atStart => exact ⟨0, Nat.zero_le _, rfl, HO2.out, R2.out, D2.out, G2.out⟩
  case round =>
    obtain ⟨k, hk, rfl, hown, hR, hD, hg⟩ := hrel
    by_cases hlt : k < ts.length
    · have hlt' : (k : Int) < ts.length := by omega
      obtain ⟨b, off, rfl, hc⟩ : ∃ b off, a = some ⟨b, off, none⟩ ∧ TripsAt w b off ts := by
        rcases hat with h0 | h0
        · subst h0; simp at hlt
        · exact h0
      obtain ⟨t1, t2, t3⟩ := (hc.kept hg (by simp)) k hlt
      obtain ⟨g, rfl⟩ : ∃ g, ua = some ⟨g, 0, none⟩ := by
        rcases Go.Joins.ownsRow_forms hown with ⟨e, hn⟩ | ⟨g, cap, e⟩
        · omega
        · cases e; exact ⟨g, rfl⟩
      have hgt : gt (turnTo ts k) k = gt ts k := by rw [turnTo_get hlt, if_neg (by omega)]
      have hset := turnTo_set hlt
      generalize gt ts k = T at *
      obtain ⟨f, t, d⟩ := T
      dsimp only [turnT] at *
      have hgl := hown.lt g rfl
      obtain ⟨e0, e1, e2⟩ := tcells_get (turnTo ts k) k (by rw [turnTo_length]; exact hlt)
      rw [hgt] at e0 e1 e2
      have hownA := (hown.alloc (.cells #[.int .i64 f, .int .i64 t, .int .i64 d] 45))
      have hst := (hownA.stored (k * 3) (.int .i64 t)).1
      have hst2 := (hst.stored (k * 3 + 1) (.int .i64 f)).1
      have hts := tcells_set2 (turnTo ts k) k t f
      rw [hgt, hset] at hts
      rw [hts] at hst2
      have hd0 := (hownA.cellAt (k * 3) (by omega)).trans e0
      have hd1 := (hownA.cellAt (k * 3 + 1) (by omega)).trans e1
      have hf0 := hownA.frozenAt (k * 3)
      have hf1 := hownA.frozenAt (k * 3 + 1)
      have hw1 := (hown.cellAt (k * 3 + 1) (by omega)).trans e1
      have hwf1 := hown.frozenAt (k * 3 + 1)
      have HST := hid hst2
      have hDa := hD.kept (gr_alloc (gr_refl wr none) (.cells #[.int .i64 f, .int .i64 t, .int .i64 d] 45)) (by simp)
      have hRa := hR.kept (gr_alloc (gr_refl wr none) (.cells #[.int .i64 f, .int .i64 t, .int .i64 d] 45)) (by simp)
      have hP := blq_new wr #[.int .i64 f, .int .i64 t, .int .i64 d] 45
      have hgD : g ≠ w1.heap.size := fun e => own_ne_blq hown hD (by decide) (by rw [e]; rfl)
      have hgR : g ≠ w.heap.size + 1 := fun e => own_ne_blq hown hR (by decide) (by rw [e]; rfl)
      have HGa := hid (gr_alloc hg (.cells #[.int .i64 f, .int .i64 t, .int .i64 d] 45))
      have HDa := hid hDa
      have HRa := hid hRa
      have HPa := hid hP
      have hg2 : g < wr.heap.size := hgl.2
      have hg1 : w.heap.size + 2 ≤ g := hgl.1
      clear hc hat hgt hset e0 e1 e2 hst hst2 hts hown hownA hg hD hR hDa hRa hP hgl
      have HS0 : Hid ((wr.alloc (.cells #[.int .i64 f, .int .i64 t, .int .i64 d] 45)).drew.cell? ⟨w1.heap.size, 1, none⟩ = some (.slice (some ⟨g, 0, none⟩) ts.length uc) ∧ (wr.alloc (.cells #[.int .i64 f, .int .i64 t, .int .i64 d] 45)).drew.cell? ⟨wr.heap.size, 0, none⟩ = some (.int .i64 f) ∧ (wr.alloc (.cells #[.int .i64 f, .int .i64 t, .int .i64 d] 45)).drew.cell? ⟨wr.heap.size, 1, none⟩ = some (.int .i64 t) ∧ Gr w (wr.alloc (.cells #[.int .i64 f, .int .i64 t, .int .i64 d] 45)).drew none) := ⟨by have := Go.Joins.cell_of_block HDa.out 1; simpa using this, by simp, by simp, gr_drew HGa.out⟩
      have HSS : Hid (∀ (W : World) (o : Nat) (x : Value), (W.cell? ⟨w1.heap.size, 1, none⟩ = some (.slice (some ⟨g, 0, none⟩) ts.length uc) ∧ W.cell? ⟨wr.heap.size, 0, none⟩ = some (.int .i64 f) ∧ W.cell? ⟨wr.heap.size, 1, none⟩ = some (.int .i64 t) ∧ Gr w W none) → ((W.setCell ⟨g, o, none⟩ x).cell? ⟨w1.heap.size, 1, none⟩ = some (.slice (some ⟨g, 0, none⟩) ts.length uc) ∧ (W.setCell ⟨g, o, none⟩ x).cell? ⟨wr.heap.size, 0, none⟩ = some (.int .i64 f) ∧ (W.setCell ⟨g, o, none⟩ x).cell? ⟨wr.heap.size, 1, none⟩ = some (.int .i64 t) ∧ Gr w (W.setCell ⟨g, o, none⟩ x) none)) := fun W o x hh =>
        ⟨set_other (fun e => hgD (congrArg Addr.block e)) hh.1, set_other (fun e => by have := congrArg Addr.block e; simp at this; omega) hh.2.1, set_other (fun e => by have := congrArg Addr.block e; simp at this; omega) hh.2.2.1, gr_set hh.2.2.2 (.inr (by simp; omega)) _⟩
      have hd1' : ((wr.alloc (.cells #[.int .i64 f, .int .i64 t, .int .i64 d] 45)).setCell ⟨g, k * 3, none⟩ (.int .i64 t)).cell? ⟨g, k * 3 + 1, none⟩ = some (.int .i64 t) := set_other (by intro e; simp at e) hd1
      have hw1' : (wr.setCell ⟨g, k * 3, none⟩ (.int .i64 t)).cell? ⟨g, k * 3 + 1, none⟩ = some (.int .i64 t) := set_other (by intro e; simp at e) hw1
      have EQ1 : (wr.alloc (.cells #[.int .i64 f, .int .i64 t, .int .i64 d] 45)).drew.setCell ⟨g, k * 3, none⟩ (.int .i64 t) = ((wr.setCell ⟨g, k * 3, none⟩ (.int .i64 t)).alloc (.cells #[.int .i64 f, .int .i64 t, .int .i64 d] 45)).drew := by simp [go_sem, hg2]
      have EQ2 : ((wr.alloc (.cells #[.int .i64 f, .int .i64 t, .int .i64 d] 45)).drew.setCell ⟨g, k * 3, none⟩ (.int .i64 t)).setCell ⟨g, k * 3 + 1, none⟩ (.int .i64 f) = (((wr.setCell ⟨g, k * 3, none⟩ (.int .i64 t)).setCell ⟨g, k * 3 + 1, none⟩ (.int .i64 f)).alloc (.cells #[.int .i64 f, .int .i64 t, .int .i64 d] 45)).drew := by simp [go_sem, hg2]
      have HS1 : Hid (((wr.setCell ⟨g, k * 3, none⟩ (.int .i64 t)).alloc (.cells #[.int .i64 f, .int .i64 t, .int .i64 d] 45)).drew.cell? ⟨w1.heap.size, 1, none⟩ = some (.slice (some ⟨g, 0, none⟩) ts.length uc) ∧ ((wr.setCell ⟨g, k * 3, none⟩ (.int .i64 t)).alloc (.cells #[.int .i64 f, .int .i64 t, .int .i64 d] 45)).drew.cell? ⟨wr.heap.size, 0, none⟩ = some (.int .i64 f) ∧ ((wr.setCell ⟨g, k * 3, none⟩ (.int .i64 t)).alloc (.cells #[.int .i64 f, .int .i64 t, .int .i64 d] 45)).drew.cell? ⟨wr.heap.size, 1, none⟩ = some (.int .i64 t) ∧ Gr w ((wr.setCell ⟨g, k * 3, none⟩ (.int .i64 t)).alloc (.cells #[.int .i64 f, .int .i64 t, .int .i64 d] 45)).drew none) := by rw [← EQ1]; exact HSS.out _ _ _ HS0.out
      have HS2 : Hid ((((wr.setCell ⟨g, k * 3, none⟩ (.int .i64 t)).setCell ⟨g, k * 3 + 1, none⟩ (.int .i64 f)).alloc (.cells #[.int .i64 f, .int .i64 t, .int .i64 d] 45)).drew.cell? ⟨w1.heap.size, 1, none⟩ = some (.slice (some ⟨g, 0, none⟩) ts.length uc) ∧ (((wr.setCell ⟨g, k * 3, none⟩ (.int .i64 t)).setCell ⟨g, k * 3 + 1, none⟩ (.int .i64 f)).alloc (.cells #[.int .i64 f, .int .i64 t, .int .i64 d] 45)).drew.cell? ⟨wr.heap.size, 0, none⟩ = some (.int .i64 f) ∧ (((wr.setCell ⟨g, k * 3, none⟩ (.int .i64 t)).setCell ⟨g, k * 3 + 1, none⟩ (.int .i64 f)).alloc (.cells #[.int .i64 f, .int .i64 t, .int .i64 d] 45)).drew.cell? ⟨wr.heap.size, 1, none⟩ = some (.int .i64 t) ∧ Gr w (((wr.setCell ⟨g, k * 3, none⟩ (.int .i64 t)).setCell ⟨g, k * 3 + 1, none⟩ (.int .i64 f)).alloc (.cells #[.int .i64 f, .int .i64 t, .int .i64 d] 45)).drew none) := by rw [← EQ2]; exact HSS.out _ _ _ (HSS.out _ _ _ HS0.out)
      have HEQ := hid EQ2
      clear EQ1 EQ2
      go_upto_region 7 with fail
      refine wp_region_noPanic ?_
      refine wp_region_held_drew (S := fun w' => w'.cell? ⟨w1.heap.size, 1, none⟩ = some (.slice (some ⟨g, 0, none⟩) ts.length uc) ∧ w'.cell? ⟨wr.heap.size, 0, none⟩ = some (.int .i64 f) ∧ w'.cell? ⟨wr.heap.size, 1, none⟩ = some (.int .i64 t) ∧ Gr w w' none) (by kernel_rfl) HS0.out (fun hHeld => ?_)
      (refine wpAnyH_take (i := 0) (v := ?_) rfl (by kernel_rfl) (by kernel_rfl) (by kernel_rfl) (fun _ _ _ h => h) (Or.inl ⟨by rfl, ?_⟩) (by assumption) ?_; rotate_left; · (intro w hSw; (try dsimp only at hSw); go_simp <;> with_reducible rfl); try simp only [Act.put, List.setIfInBounds_toArray, List.set_cons_zero, List.set_cons_succ])
      (refine wpAnyH_take (i := 1) (v := ?_) rfl (by kernel_rfl) (by kernel_rfl) (by kernel_rfl) (fun _ _ _ h => h) (Or.inl ⟨by rfl, ?_⟩) (by assumption) ?_; rotate_left; · (intro w hSw; (try dsimp only at hSw); go_simp <;> with_reducible rfl); try simp only [Act.put, List.setIfInBounds_toArray, List.set_cons_zero, List.set_cons_succ])
      (refine wpAnyH_take (i := 2) (v := ?_) rfl (by kernel_rfl) (by kernel_rfl) (by kernel_rfl) (fun _ _ _ h => h) (Or.inl ⟨by rfl, ?_⟩) (by assumption) ?_; rotate_left; · (intro w hSw; (try dsimp only at hSw); go_simp <;> with_reducible rfl); try simp only [Act.put, List.setIfInBounds_toArray, List.set_cons_zero, List.set_cons_succ])
      (refine wpAnyH_take (i := 3) (v := ?_) rfl (by kernel_rfl) (by kernel_rfl) (by kernel_rfl) (fun _ _ _ h => h) (Or.inl ⟨by rfl, ?_⟩) (by assumption) ?_; rotate_left; · (intro w hSw; (try dsimp only at hSw); go_simp <;> with_reducible rfl); try simp only [Act.put, List.setIfInBounds_toArray, List.set_cons_zero, List.set_cons_succ])
      (refine wpAnyH_take (i := 4) (v := ?_) rfl (by kernel_rfl) (by kernel_rfl) (by kernel_rfl) (fun _ _ _ h => h) (Or.inl ⟨by rfl, ?_⟩) (by assumption) ?_; rotate_left; · (intro w hSw; (try dsimp only at hSw); go_simp <;> with_reducible rfl); try simp only [Act.put, List.setIfInBounds_toArray, List.set_cons_zero, List.set_cons_succ])
      (refine wpAnyH_take (i := 5) (v := ?_) rfl (by kernel_rfl) (by kernel_rfl) (by kernel_rfl) (fun _ _ _ h => h) (Or.inl ⟨by rfl, ?_⟩) (by assumption) ?_; rotate_left; · (intro w hSw; (try dsimp only at hSw); go_simp <;> with_reducible rfl); try simp only [Act.put, List.setIfInBounds_toArray, List.set_cons_zero, List.set_cons_succ])
      (refine wpAnyH_take (i := 6) (v := ?_) rfl (by kernel_rfl) (by kernel_rfl) (by kernel_rfl) (fun _ _ _ h => h) (Or.inl ⟨by rfl, ?_⟩) (by assumption) ?_; rotate_left; · (intro w hSw; (try dsimp only at hSw); go_simp <;> with_reducible rfl); try simp only [Act.put, List.setIfInBounds_toArray, List.set_cons_zero, List.set_cons_succ])
      (refine wpAnyH_take (i := 7) (v := ?_) rfl (by kernel_rfl) (by kernel_rfl) (by kernel_rfl) (fun _ _ _ h => h) (Or.inl ⟨by rfl, ?_⟩) (by assumption) ?_; rotate_left; · (intro w hSw; (try dsimp only at hSw); go_simp <;> with_reducible rfl); try simp only [Act.put, List.setIfInBounds_toArray, List.set_cons_zero, List.set_cons_succ])
      (refine wpAnyH_take (i := 8) (v := ?_) rfl (by kernel_rfl) (by kernel_rfl) (by kernel_rfl) (fun _ _ _ h => h) (Or.inl ⟨by rfl, ?_⟩) (by assumption) ?_; rotate_left; · (intro w hSw; (try dsimp only at hSw); go_simp <;> with_reducible rfl); try simp only [Act.put, List.setIfInBounds_toArray, List.set_cons_zero, List.set_cons_succ])
      (refine wpAnyH_take (i := 9) (v := ?_) rfl (by kernel_rfl) (by kernel_rfl) (by kernel_rfl) (fun _ _ _ h => h) (Or.inl ⟨by rfl, ?_⟩) (by assumption) ?_; rotate_left; · (intro w hSw; (try dsimp only at hSw); go_simp <;> with_reducible rfl); try simp only [Act.put, List.setIfInBounds_toArray, List.set_cons_zero, List.set_cons_succ])
      (refine wpAnyH_take (i := 10) (v := ?_) rfl (by kernel_rfl) (by kernel_rfl) (by kernel_rfl) (fun _ _ _ h => h) (Or.inl ⟨by rfl, ?_⟩) (by assumption) ?_; rotate_left; · (intro w hSw; (try dsimp only at hSw); go_simp <;> with_reducible rfl); try simp only [Act.put, List.setIfInBounds_toArray, List.set_cons_zero, List.set_cons_succ])
      (refine wpAnyH_take (i := 11) (v := ?_) rfl (by kernel_rfl) (by kernel_rfl) (by kernel_rfl) (fun _ _ _ h => h) (Or.inl ⟨by rfl, ?_⟩) (by assumption) ?_; rotate_left; · (intro w hSw; (try dsimp only at hSw); go_simp <;> with_reducible rfl); try simp only [Act.put, List.setIfInBounds_toArray, List.set_cons_zero, List.set_cons_succ])
      refine wpAnyH_ready (rs := [12]) (by kernel_rfl) (by simp) ?_
      refine AllReadyH.cons rfl (fun K hK => ?_) AllReadyH.nil
      go_simp
      refine hK.out _ _ (HS1.out) (fun hHeld => ?_)
      clear hK K
      try simp only [Act.put, List.setIfInBounds_toArray, List.set_cons_zero, List.set_cons_succ]
      (refine wpAnyH_take (i := 13) (v := ?_) rfl (by kernel_rfl) (by kernel_rfl) (by kernel_rfl) (fun _ _ _ h => h) (Or.inl ⟨by rfl, ?_⟩) (by assumption) ?_; rotate_left; · (intro w hSw; (try dsimp only at hSw); go_simp <;> with_reducible rfl); try simp only [Act.put, List.setIfInBounds_toArray, List.set_cons_zero, List.set_cons_succ])
      (refine wpAnyH_take (i := 14) (v := ?_) rfl (by kernel_rfl) (by kernel_rfl) (by kernel_rfl) (fun _ _ _ h => h) (Or.inl ⟨by rfl, ?_⟩) (by assumption) ?_; rotate_left; · (intro w hSw; (try dsimp only at hSw); go_simp <;> with_reducible rfl); try simp only [Act.put, List.setIfInBounds_toArray, List.set_cons_zero, List.set_cons_succ])
      refine wpAnyH_ready (rs := [15]) (by kernel_rfl) (by simp) ?_
      refine AllReadyH.cons rfl (fun K hK => ?_) AllReadyH.nil
      go_simp
      refine hK.out _ _ (HS2.out) (fun hHeld => ?_)
      clear hK K
      try simp only [Act.put, List.setIfInBounds_toArray, List.set_cons_zero, List.set_cons_succ]
      refine wpAnyH_done (by kernel_rfl) ?_ _
      refine NoPanic.normal ?_
      have HFIN : Hid (Blq (((wr.alloc (.cells #[.int .i64 f, .int .i64 t, .int .i64 d] 45)).drew.setCell ⟨g, k * 3, none⟩ (.int .i64 t)).setCell ⟨g, k * 3 + 1, none⟩ (.int .i64 f)) (w.heap.size + 1) #[.int .i64 0, .slice none 0 0] 29 ∧ Blq (((wr.alloc (.cells #[.int .i64 f, .int .i64 t, .int .i64 d] 45)).drew.setCell ⟨g, k * 3, none⟩ (.int .i64 t)).setCell ⟨g, k * 3 + 1, none⟩ (.int .i64 f)) w1.heap.size #[.int .i64 n, .slice (some ⟨g, 0, none⟩) ts.length uc] 29 ∧ Gr w (((wr.alloc (.cells #[.int .i64 f, .int .i64 t, .int .i64 d] 45)).drew.setCell ⟨g, k * 3, none⟩ (.int .i64 t)).setCell ⟨g, k * 3 + 1, none⟩ (.int .i64 f)) none) :=
        ⟨blq_other (blq_other (HRa.out.kept (gr_drew (gr_refl _ none)) (by simp)) (Ne.symm hgR)) (Ne.symm hgR), blq_other (blq_other (HDa.out.kept (gr_drew (gr_refl _ none)) (by simp)) (Ne.symm hgD)) (Ne.symm hgD), (HSS.out _ _ _ (HSS.out _ _ _ HS0.out)).2.2.2⟩
      have HOW := hid (HST.out.drew)
      have HFIN2 := hid (show ((wr.alloc (.cells #[.int .i64 f, .int .i64 t, .int .i64 d] 45)).drew.setCell ⟨g, k * 3, none⟩ (.int .i64 t)).setCell ⟨g, k * 3 + 1, none⟩ (.int .i64 f) = _ from HEQ.out)
      clear hd0 hd1 hd1' hf0 hf1 hw1 hw1' hwf1
      go_wp2
      go_roundw
      case rel => exact ⟨k + 1, by omega, by go_num, by first | exact HOW.out | (rw [← HEQ.out]; exact HOW.out), by first | exact HFIN.out | (rw [← HEQ.out]; exact HFIN.out)⟩
      case measure => simp [intOf]; omega
    · have hkl : k = ts.length := by omega
      subst hkl
      rw [turnTo_all] at hown
      obtain ⟨q0, q1, -, -⟩ := cells2 hD
      obtain ⟨_, _, f0, f1⟩ := cells2 hR
      have hDl : w1.heap.size < wr.heap.size := hD.lt
      obtain ⟨m0, m1, -, -⟩ := cells2 (blq_set (x0 := .int .i64 n) (x1 := .slice ua ts.length uc) hR)
      have h64 : ∀ x ∈ ts.map turnT, T64 x := fun x hx => by
        obtain ⟨y, hy, rfl⟩ := List.mem_map.1 hx
        have := H64.out y hy
        exact ⟨this.2.1, this.1, this.2.2⟩
      have HE : Hid (OwnT 45 ((wr.setCell ⟨w.heap.size + 1, 0, none⟩ (.int .i64 n)).setCell ⟨w.heap.size + 1, 1, none⟩ (.slice ua ts.length uc)) w.heap.size (.slice ua ts.length uc) (ts.map turnT) ∧ Gr w ((wr.setCell ⟨w.heap.size + 1, 0, none⟩ (.int .i64 n)).setCell ⟨w.heap.size + 1, 1, none⟩ (.slice ua ts.length uc)) none) :=
        ⟨OwnT.mono (B := w.heap.size + 2) ⟨h64, by rw [List.length_map]; exact own_setq (own_setq hown hR (by decide) _ _) (blq_s0 hR _) (by decide) _ _⟩ (by omega), gr_set (gr_set hg (p := ⟨w.heap.size + 1, 0, none⟩) (.inr (by simp)) _) (p := ⟨w.heap.size + 1, 1, none⟩) (.inr (by simp)) _⟩
      clear hown hR hD hg hat h64
      go_wp2
      exact bodyPost_ret (v := .agg #[.int .i64 n, .slice ua ts.length uc]) (by simp [results, Try.results17, go_sem, m0, m1]) rfl ⟨_, rfl, HE.out⟩
end Go.Proofs.Ytbkpphcmdjllnaa
