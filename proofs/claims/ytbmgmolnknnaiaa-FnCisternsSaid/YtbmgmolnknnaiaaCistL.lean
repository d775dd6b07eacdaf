/- The law over a drawn cistern, walked. -/
import Derived.Test.YtbmgmolnknnaiaaDraw
import Derived.Test.YtbmgmolnknnaiaaBal
import Derived.Test.YtbmgmolnknnaiaaLex
namespace Go.Proofs.Ytbmgmolnknnaiaa
open Go.RowKit

/-- Block B holds these cells. -/
def Blq (w : World) (B : Nat) (cs : Array Value) (T : TypeId) : Prop := w.heap[B]? = some (.cells cs T (0, 0))
theorem Blq.kept {a b : World} {B : Nat} {cs : Array Value} {T : TypeId} {r : Option Nat} (h : Blq a B cs T) (hg : Gr a b r) (hr : r ≠ some B) : Blq b B cs T := (hg.block B (lt_of_block h) (fun e => hr e.symm)).trans h
theorem blq_new (w : World) (cs : Array Value) (T : TypeId) : Blq (w.alloc (.cells cs T)) w.heap.size cs T := heap_alloc_new _ _
theorem blq_set {a : World} {B : Nat} {T : TypeId} {x0 x1 y0 y1 : Value} (h : Blq a B #[y0, y1] T) : Blq ((a.setCell ⟨B, 0, none⟩ x0).setCell ⟨B, 1, none⟩ x1) B #[x0, x1] T := by
  have b0 := Go.Joins.block_setCell h (i := 0) x0
  have b1 := Go.Joins.block_setCell b0 (i := 1) x1
  unfold Blq
  simpa using b1
theorem cells2 {w : World} {B : Nat} {T : TypeId} {x0 x1 : Value} (h : Blq w B #[x0, x1] T) : w.cell? ⟨B, 0, none⟩ = some x0 ∧ w.cell? ⟨B, 1, none⟩ = some x1 ∧ w.frozen? ⟨B, 0, none⟩ = false ∧ w.frozen? ⟨B, 1, none⟩ = false := by
  have m0 := Go.Joins.cell_of_block h 0
  have m1 := Go.Joins.cell_of_block h 1
  simp only [List.getElem?_toArray, List.getElem?_cons_zero, List.getElem?_cons_succ] at m0 m1
  exact ⟨m0, m1, Go.Joins.unfrozen_of_block h 0, Go.Joins.unfrozen_of_block h 1⟩
def RetCs (T : TypeId) (w : World) (C : Nat) (e : Ending) (w' : World) : Prop := ∃ r l : Int, e = .returned (.agg #[.int .i64 r, .int .i64 l]) ∧ (1 ≤ r ∧ r ≤ 250) ∧ (0 ≤ l ∧ l ≤ r) ∧ Cur T w' C ∧ Gr w w' (some C)
theorem l04Cistern_any {C : Nat} (w : World) (h : Cur 63 w C) : Calls Try.prog 30 #[.pointer (some ⟨C, 0, none⟩)] w (RetCs 63 w C) := by
  have hC := h.lt
  have HC := hid hC
  have HA := hid (h.on (gr_alloc (gr_refl w none) (.cells #[.int .i64 0, .int .i64 0] 24)))
  have B0 := hid (blq_new w #[.int .i64 0, .int .i64 0] 24)
  clear h hC
  go_enter Try.func30, Try.ntmps30
  go_wp2_with fail
  refine (l01Below_any _ _ HA.out (by omega) (by omega)).mono ?_
  rintro e w1 ⟨r, r1, r2, rfl, hc1, g1⟩
  have B1 := hid (B0.out.kept g1 (by have := HC.out; simp; omega))
  have G1 := hid (gr_same (gr_mono (gr_alloc (gr_refl w none) _)) g1)
  clear g1 B0 HA
  go_wp2_with fail
  refine (l01Below_any _ _ hc1 (by omega) (by omega)).mono ?_
  rintro e w2 ⟨l, l1, l2, rfl, hc2, g2⟩
  have B2 := B1.out.kept g2 (by have := HC.out; simp; omega)
  have G2 := hid (gr_same G1.out g2)
  obtain ⟨_, _, f0, f1⟩ := cells2 B2
  obtain ⟨m0, m1, _, _⟩ := cells2 (blq_set (x0 := .int .i64 (1 + r)) (x1 := .int .i64 l) B2)
  have hCl := HC.out
  have HE := hid (And.intro (Cur.kept (r := some w.heap.size) (Cur.kept (r := some w.heap.size) hc2 (gr_set (p := ⟨w.heap.size, 0, none⟩) (gr_refl _ _) (.inl rfl) (.int .i64 (1 + r))) (by intro j e; cases e; exact hCl)) (gr_set (p := ⟨w.heap.size, 1, none⟩) (gr_refl _ _) (.inl rfl) (.int .i64 l)) (by intro j e; cases e; exact hCl)) (gr_set (gr_set G2.out (p := ⟨w.heap.size, 0, none⟩) (.inr (by simp)) (.int .i64 (1 + r))) (p := ⟨w.heap.size, 1, none⟩) (.inr (by simp)) (.int .i64 l)))
  clear hc1 hc2 g2 B1 G1 B2 G2 HC
  go_wp2
  exact bodyPost_ret (v := .agg #[.int .i64 (1 + r), .int .i64 l]) (by simp [results, Try.results30, go_sem, m0, m1]) rfl ⟨_, _, rfl, by omega, by omega, HE.out⟩
def RetCs0 (w : World) (e : Ending) (w' : World) : Prop := ∃ r l : Int, e = .returned (.agg #[.int .i64 r, .int .i64 l]) ∧ (1 ≤ r ∧ r ≤ 250) ∧ (0 ≤ l ∧ l ≤ r) ∧ Gr w w' none
theorem drawCistern_any {v : Value} {n : Nat} (w : World) (h : BytesN w v n) (hn : n ≤ 1048576) : Calls Try.prog 11 #[v] w (RetCs0 w) := by
  have B0 := hid (blq_new w #[.int .i64 0, .int .i64 0] 24)
  obtain ⟨a, cap, rfl, _, _, _⟩ := id h
  have HN := hid (bytesN_kept' h (gr_alloc (gr_refl w none) (.cells #[.int .i64 0, .int .i64 0] 24)) (by intro j e; cases e))
  clear h
  go_enter Try.func11, Try.ntmps11
  go_wp2_with fail
  refine (l01New_any _ HN.out hn).mono ?_
  rintro e w1 ⟨C, hC, rfl, hc, g1⟩
  go_wp2_with fail
  refine (l04Cistern_any _ hc).mono ?_
  rintro e w2 ⟨r, l, rfl, hr, hl, _, g2⟩
  simp only [World.size_alloc] at hC
  have z1 := gr_le g1
  simp only [World.size_alloc] at z1
  have B2 := (B0.out.kept g1 (by simp)).kept g2 (by simp; omega)
  obtain ⟨_, _, f0, f1⟩ := cells2 B2
  obtain ⟨m0, m1, _, _⟩ := cells2 (blq_set (x0 := .int .i64 r) (x1 := .int .i64 l) B2)
  have HE := hid (gr_set (gr_set (gr_trans (gr_then (gr_alloc (gr_refl w none) _) g1) g2 (fun j e => by cases e; exact .inr (by omega))) (p := ⟨w.heap.size, 0, none⟩) (.inr (by simp)) (.int .i64 r)) (p := ⟨w.heap.size, 1, none⟩) (.inr (by simp)) (.int .i64 l))
  clear HN B0 B2 g1 g2 hc
  go_wp2
  exact bodyPost_ret (v := .agg #[.int .i64 r, .int .i64 l]) (by simp [results, Try.results11, go_sem, m0, m1]) rfl ⟨_, _, rfl, hr, hl, HE.out⟩
/-! ### Plain laws -/
theorem pour_law {r l x : Int} (hr : 1 ≤ r ∧ r ≤ 250) (hl : 0 ≤ l ∧ l ≤ r) (hx : 0 ≤ x ∧ x ≤ 255) : (0 ≤ pourO r l x ∧ pourO r l x ≤ 255) ∧ (pourL r l x + pourO r l x = l + x) ∧ (0 ≤ pourL r l x ∧ pourL r l x ≤ r) ∧ (pourO r l x ≠ 0 → pourL r l x = r) := by
  have e : pourOk r l x = true := by rw [pourOk, cistB, inB_mk (by omega), inB_mk (by omega), inB_mk (by omega)]; rfl
  rw [pourL, pourO, if_pos e, if_pos e]
  split <;> omega
theorem take_law {r l x : Int} (hr : 1 ≤ r ∧ r ≤ 250) (hl : 0 ≤ l ∧ l ≤ r) (hx : 0 ≤ x ∧ x ≤ 255) : (0 ≤ takeO r l x ∧ takeO r l x ≤ x) ∧ (takeL r l x + takeO r l x = l) ∧ (0 ≤ takeL r l x ∧ takeL r l x ≤ r) ∧ (takeO r l x ≠ x → takeL r l x = 0) := by
  have e : pourOk r l x = true := by rw [pourOk, cistB, inB_mk (by omega), inB_mk (by omega), inB_mk (by omega)]; rfl
  rw [takeL, takeO, if_pos e, if_pos e]
  split <;> omega
theorem bal_law {r l q x : Int} (hr : 1 ≤ r ∧ r ≤ 250) (hl : 0 ≤ l ∧ l ≤ r) (hq : 0 ≤ q ∧ q ≤ 100) (hx : 0 ≤ x ∧ x ≤ 255) : (0 ≤ balN r l 100 q x ∧ balN r l 100 q x ≤ x) ∧ balA r l 100 q x + balN r l 100 q x = l ∧ balB r l 100 q x - balN r l 100 q x = q ∧ (0 ≤ balA r l 100 q x ∧ balA r l 100 q x ≤ r) ∧ (0 ≤ balB r l 100 q x ∧ balB r l 100 q x ≤ 100) ∧ (balN r l 100 q x ≠ x → balA r l 100 q x ≠ 0 → balB r l 100 q x = 100) := by
  have e : balOk r l 100 q x = true := by rw [balOk, cistB, cistB, inB_mk (by omega), inB_mk (by omega), inB_mk (by omega), inB_mk (by omega), inB_mk (by omega)]; rfl
  obtain ⟨e1, e2, e3⟩ := bal_yes e rfl
  rw [e2, e3, e1]
  omega
theorem full_law {r l : Int} (hr : 1 ≤ r ∧ r ≤ 250) (hl : 0 ≤ l ∧ l ≤ r) : (0 ≤ fullV r l ∧ fullV r l ≤ 25000) ∧ fullV r l * r ≤ 100 * l ∧ 100 * l < (fullV r l + 1) * r ∧ 0 ≤ fullV r l * r ∧ (fullV r l + 1) * r ≤ 100 * l + r := by
  have e : fullV r l = l * 100 / r := by rw [fullV, cistB, inB_mk (by omega), inB_mk (by omega)]; rfl
  rw [e]
  have h1 := Int.ediv_mul_le (l * 100) (show r ≠ 0 by omega)
  have h2 := Int.lt_ediv_add_one_mul_self (l * 100) (show (0 : Int) < r by omega)
  have h3 : 0 ≤ l * 100 / r := Int.ediv_nonneg (by omega) (by omega)
  have h4 := Int.ediv_le_self r (show 0 ≤ l * 100 by omega)
  have h5 := Int.mul_nonneg h3 (show 0 ≤ r by omega)
  have h6 : (l * 100 / r + 1) * r = l * 100 / r * r + r := by rw [Int.add_mul, Int.one_mul]
  omega
theorem cist_mk {r l : Int} (hr : 1 ≤ r ∧ r ≤ 250) (hl : 0 ≤ l ∧ l ≤ r) : cistB r l = true := by rw [cistB, inB_mk (by omega), inB_mk (by omega)]; rfl
set_option maxRecDepth 100000 in
set_option maxHeartbeats 8000000 in
theorem walk_FnCisterns (v : Value) (n : Nat) (w : World) (h : BytesN w v n) :
    Calls Try.prog 4 #[v] w fun e w' => e = .returned (.bool true) ∧ Gr w w' none := by
  obtain ⟨a0, cap0, rfl, _⟩ := id h
  by_cases hn : n ≤ 1048576
  case neg =>
    have hb : decide (1048576 < (n : Int)) = true := by simp; omega
    go_enter Try.func4, Try.ntmps4
    go_wp2_with fail
    refine (big_any _ h).mono ?_
    rw [hb]
    rintro e w' ⟨rfl, rfl⟩
    go_wp2
    go_ret
    exact ⟨rfl, gr_refl _ _⟩
  case pos =>
  have hb : decide (1048576 < (n : Int)) = false := by simp; omega
  go_enter Try.func4, Try.ntmps4
  go_wp2_with fail
  refine (big_any _ h).mono ?_
  rw [hb]
  rintro e w' ⟨rfl, rfl⟩
  go_wp2_with fail
  refine (drawCistern_any _ h hn).mono ?_
  rintro e w0 ⟨r, l, rfl, hr, hl, g0⟩
  have HN0 := hid (bytesN_kept' h (gr_alloc g0 (.cells #[.int .i64 r, .int .i64 l] 24)) (by intro j e; cases e))
  have C0 := hid (box_new w0 24 r l)
  have G0 := hid (gr_alloc g0 (.cells #[.int .i64 r, .int .i64 l] 24))
  clear h hn hb g0
  go_wp2_with fail
  refine (at_any _ _ HN0.out (by omega) (by omega)).mono ?_
  rintro e w' ⟨x, x0, x1, rfl, rfl⟩
  have ⟨P1, P2, P3, P4⟩ := pour_law hr hl ⟨x0, x1⟩
  have ⟨T1, T2, T3, T4⟩ := take_law hr hl ⟨x0, x1⟩
  generalize hP : pourL r l x = P at *
  generalize hO : pourO r l x = O at *
  generalize hT : takeL r l x = T at *
  generalize hU : takeO r l x = U at *
  have HP := hid hP
  have HO := hid hO
  have HT := hid hT
  have HU := hid hU
  clear hP hO hT hU
  obtain ⟨c0, c1, c2⟩ := C0.out
  go_wp2_with fail
  refine (pour_any _ _ _ _).mono ?_
  rw [HP.out, HO.out]
  rintro e w2 ⟨rfl, g2⟩
  have C2 := hid ((C0.out.on g2).al (.cells #[.int .i64 r, .int .i64 P] 24))
  have D2 := hid (box_new w2 24 r P)
  have G2 := hid (gr_alloc (gr_then G0.out g2) (.cells #[.int .i64 r, .int .i64 P] 24))
  have HN2 := hid (bytesN_kept' HN0.out (gr_alloc g2 (.cells #[.int .i64 r, .int .i64 P] 24)) (by intro j e; cases e))
  clear c0 c1 c2 C0 G0 HN0 g2
  obtain ⟨c0, c1, c2⟩ := C2.out
  go_wp2_with fail
  refine (takeOut_any _ _ _ _).mono ?_
  rw [HT.out, HU.out]
  rintro e w3 ⟨rfl, g3⟩
  have C3 := hid ((C2.out.on g3).al (.cells #[.int .i64 r, .int .i64 T] 24))
  have D3 := hid ((D2.out.on g3).al (.cells #[.int .i64 r, .int .i64 T] 24))
  have E3 := hid (box_new w3 24 r T)
  have G3 := hid (gr_alloc (gr_then G2.out g3) (.cells #[.int .i64 r, .int .i64 T] 24))
  have HN3 := hid (bytesN_kept' HN2.out (gr_alloc g3 (.cells #[.int .i64 r, .int .i64 T] 24)) (by intro j e; cases e))
  clear c0 c1 c2 C2 D2 G2 HN2 g3
  go_wp2_with fail
  refine (at_any _ _ HN3.out (by omega) (by omega)).mono ?_
  rintro e w' ⟨y, y0, y1, rfl, rfl⟩
  have C4 := hid (C3.out.al (.cells #[.int .i64 100, .int .i64 (y % 101)] 24))
  have D4 := hid (D3.out.al (.cells #[.int .i64 100, .int .i64 (y % 101)] 24))
  have E4 := hid (E3.out.al (.cells #[.int .i64 100, .int .i64 (y % 101)] 24))
  have F4 := hid (box_new (w3.alloc (.cells #[.int .i64 r, .int .i64 T] 24)) 24 100 (y % 101))
  have G4 := hid (gr_alloc G3.out (.cells #[.int .i64 100, .int .i64 (y % 101)] 24))
  have hq : 0 ≤ y % 101 ∧ y % 101 ≤ 100 := by omega
  obtain ⟨c0, c1, c2⟩ := C4.out
  obtain ⟨d0, d1, d2⟩ := F4.out
  simp only [World.size_alloc] at d0 d1
  clear C3 D3 E3 G3 HN3 c2 d2
  go_wp2_with fail
  generalize y % 101 = q at *
  have ⟨N1, N2, N3, N4, N5, N6⟩ := bal_law hr hl hq ⟨x0, x1⟩
  have ⟨F1, F2, F3, F5, F6⟩ := full_law hr hl
  generalize hA : balA r l 100 q x = A at *
  generalize hB : balB r l 100 q x = B at *
  generalize hN : balN r l 100 q x = N at *
  generalize hF : fullV r l = F at *
  have HA := hid hA
  have HB := hid hB
  have HN := hid hN
  have HF := hid hF
  clear hA hB hN hF c0 c1 d0 d1
  refine (balance_any _ _ _ _ _ _).mono ?_
  rw [HA.out, HB.out, HN.out]
  rintro e w5 ⟨rfl, g5⟩
  have HON : Hid (∀ W W' : World, (Box2 W w0.heap.size r l ∧ Box2 W w2.heap.size r P ∧ Box2 W w3.heap.size r T ∧ Box2 W (w3.heap.size + 1) 100 q ∧ Box2 W w5.heap.size r A ∧ Box2 W (w5.heap.size + 1) 100 B ∧ Gr w W none) → Gr W W' none → (Box2 W' w0.heap.size r l ∧ Box2 W' w2.heap.size r P ∧ Box2 W' w3.heap.size r T ∧ Box2 W' (w3.heap.size + 1) 100 q ∧ Box2 W' w5.heap.size r A ∧ Box2 W' (w5.heap.size + 1) 100 B ∧ Gr w W' none)) := fun W W' hh hg => ⟨hh.1.on hg, hh.2.1.on hg, hh.2.2.1.on hg, hh.2.2.2.1.on hg, hh.2.2.2.2.1.on hg, hh.2.2.2.2.2.1.on hg, gr_then hh.2.2.2.2.2.2 hg⟩
  have K6 : Hid (Box2 ((w5.alloc (.cells #[.int .i64 r, .int .i64 A] 24)).alloc (.cells #[.int .i64 100, .int .i64 B] 24)) w0.heap.size r l ∧ Box2 ((w5.alloc (.cells #[.int .i64 r, .int .i64 A] 24)).alloc (.cells #[.int .i64 100, .int .i64 B] 24)) w2.heap.size r P ∧ Box2 ((w5.alloc (.cells #[.int .i64 r, .int .i64 A] 24)).alloc (.cells #[.int .i64 100, .int .i64 B] 24)) w3.heap.size r T ∧ Box2 ((w5.alloc (.cells #[.int .i64 r, .int .i64 A] 24)).alloc (.cells #[.int .i64 100, .int .i64 B] 24)) (w3.heap.size + 1) 100 q ∧ Box2 ((w5.alloc (.cells #[.int .i64 r, .int .i64 A] 24)).alloc (.cells #[.int .i64 100, .int .i64 B] 24)) w5.heap.size r A ∧ Box2 ((w5.alloc (.cells #[.int .i64 r, .int .i64 A] 24)).alloc (.cells #[.int .i64 100, .int .i64 B] 24)) (w5.heap.size + 1) 100 B ∧ Gr w ((w5.alloc (.cells #[.int .i64 r, .int .i64 A] 24)).alloc (.cells #[.int .i64 100, .int .i64 B] 24)) none) :=
    ⟨((C4.out.on g5).al _).al _, ((D4.out.on g5).al _).al _, ((E4.out.on g5).al _).al _, (((by simpa using F4.out : Box2 _ (w3.heap.size + 1) 100 q).on g5).al _).al _, (box_new w5 24 r A).al _, by simpa using box_new (w5.alloc (.cells #[.int .i64 r, .int .i64 A] 24)) 24 100 B, gr_alloc (gr_alloc (gr_then G4.out g5) _) _⟩
  clear C4 D4 E4 F4 G4 g5
  obtain ⟨⟨c0, c1, -⟩, ⟨p0, p1, -⟩, ⟨t0, t1, -⟩, ⟨q0, q1, -⟩, ⟨a0', a1, -⟩, ⟨b0, b1, -⟩, -⟩ := K6.out
  have hsp : spaceV r l = r - l := by rw [spaceV, if_pos (cist_mk hr hl)]
  have HSP := hid hsp
  have HP1 := hid (show cistB r P = true from cist_mk hr P3)
  have HT1 := hid (show cistB r T = true from cist_mk hr T3)
  have HA1 := hid (show cistB r A = true from cist_mk hr N4)
  have HB1 := hid (show cistB 100 B = true by rw [cistB, inB_mk (by omega), inB_mk (by omega)]; rfl)
  have HP4 := hid P4
  have HT4 := hid T4
  have HN6 := hid N6
  obtain ⟨P1, P1'⟩ := P1
  obtain ⟨T1, T1'⟩ := T1
  obtain ⟨N1, N1'⟩ := N1
  have v1 : (P + O == l + x) = true := by simp; exact P2
  have v2 : (T + U == l) = true := by simp; exact T2
  have v3 : (A + N == l) = true := by simp; exact N2
  have v4 : (B - N == q) = true := by simp; exact N3
  clear hsp P2 T2 N2 N3 P4 T4 N6
  go_wp2_with fail
  refine (spaceIn_any _ _ _).mono ?_
  rw [HSP.out]
  rintro e w7 ⟨rfl, g7⟩
  have K7 := hid (HON.out _ _ K6.out g7)
  clear c0 c1 p0 p1 t0 t1 q0 q1 a0' a1 b0 b1 K6 g7
  obtain ⟨⟨c0, c1, -⟩, ⟨p0, p1, -⟩, ⟨t0, t1, -⟩, ⟨q0, q1, -⟩, ⟨a0', a1, -⟩, ⟨b0, b1, -⟩, -⟩ := K7.out
  have g0' := K7.out.2.2.2.2.2.2
  obtain ⟨F0, F0'⟩ := F1
  have HFW : Hid (IntKind.i64.wrap (F * r) = F * r ∧ IntKind.i64.wrap ((F + 1) * r) = (F + 1) * r) := ⟨IntWalk.i64_in _ (by omega), IntWalk.i64_in _ (by omega)⟩
  obtain ⟨X1, hX1⟩ : ∃ X, X = F * r := ⟨_, rfl⟩
  obtain ⟨X2, hX2⟩ : ∃ X, X = (F + 1) * r := ⟨_, rfl⟩
  rw [← hX1] at F2 F5 HFW
  rw [← hX2] at F3 F6 HFW
  obtain ⟨fw1, fw2⟩ := HFW.out
  have y1 : decide (X1 ≤ 100 * l) = true := by simp; exact F2
  have y2 : decide (100 * l < X2) = true := by simp; exact F3
  have hx1 := hX1.symm
  have hx2 := hX2.symm
  clear hX1 hX2 F2 F3 F5 F6 HFW
  have HPok : Hid (∀ W, Calls Try.prog 16 #[.agg #[.int .i64 r, .int .i64 P]] W fun e w' => e = .returned (.bool true) ∧ Gr W w' none) := fun W => by have := cisternOk_any r P W; rwa [HP1.out] at this
  have HTok : Hid (∀ W, Calls Try.prog 16 #[.agg #[.int .i64 r, .int .i64 T]] W fun e w' => e = .returned (.bool true) ∧ Gr W w' none) := fun W => by have := cisternOk_any r T W; rwa [HT1.out] at this
  have HAok : Hid (∀ W, Calls Try.prog 16 #[.agg #[.int .i64 r, .int .i64 A]] W fun e w' => e = .returned (.bool true) ∧ Gr W w' none) := fun W => by have := cisternOk_any r A W; rwa [HA1.out] at this
  have HBok : Hid (∀ W, Calls Try.prog 16 #[.agg #[.int .i64 100, .int .i64 B]] W fun e w' => e = .returned (.bool true) ∧ Gr W w' none) := fun W => by have := cisternOk_any 100 B W; rwa [HB1.out] at this
  have HFul : Hid (∀ W, Calls Try.prog 17 #[.agg #[.int .i64 r, .int .i64 l]] W fun e w' => e = .returned (.int .i64 F) ∧ Gr W w' none) := fun W => by have := partFull_any r l W; rwa [HF.out] at this
  have c0s := fun s : Gw w7 => cell_on s.h c0
  have c1s := fun s : Gw w7 => cell_on s.h c1
  have p0s := fun s : Gw w7 => cell_on s.h p0
  have p1s := fun s : Gw w7 => cell_on s.h p1
  have t0s := fun s : Gw w7 => cell_on s.h t0
  have t1s := fun s : Gw w7 => cell_on s.h t1
  have q0s := fun s : Gw w7 => cell_on s.h q0
  have q1s := fun s : Gw w7 => cell_on s.h q1
  have a0's := fun s : Gw w7 => cell_on s.h a0'
  have a1s := fun s : Gw w7 => cell_on s.h a1
  have b0s := fun s : Gw w7 => cell_on s.h b0
  have b1s := fun s : Gw w7 => cell_on s.h b1
  have HK7 := hid g0'
  clear c0 c1 p0 p1 t0 t1 q0 q1 a0' a1 b0 b1 K7 g0'
  obtain ⟨ob, hob⟩ : ∃ b, (O == 0) = b := ⟨_, rfl⟩
  obtain ⟨ub, hub⟩ : ∃ b, (U == x) = b := ⟨_, rfl⟩
  obtain ⟨nb, hnb⟩ : ∃ b, (N == x) = b := ⟨_, rfl⟩
  obtain ⟨ab, hab⟩ : ∃ b, (A == 0) = b := ⟨_, rfl⟩
  have HQ1 : Hid (ob = false → (P == r) = true) := fun h => by have := HP4.out (by rw [h] at hob; simpa using hob); simp [this]
  have HQ2 : Hid (ub = false → (T == 0) = true) := fun h => by have := HT4.out (by rw [h] at hub; simpa using hub); simp [this]
  have HQ3 : Hid (nb = false → ab = false → (B == 100) = true) := fun h h' => by
    rw [h] at hnb; rw [h'] at hab
    have h1 : N ≠ x := by simpa using hnb
    have h2 : A ≠ 0 := by simpa using hab
    have := HN6.out
    simp; omega
  go_wp2_with fail
  simp only [List.append_eq, List.cons_append, List.nil_append]
  refine region_gw (w0 := w7) (by kernel_rfl) (by kernel_rfl) (by kernel_rfl) ?_
  repeat (first | go_big_quiet_skip | (go_big_quiet_want; go_big_quiet_op; first | go_big_quiet_on | (apply Exists.intro; refine ⟨fun s => ?_, ?_⟩; (focus (first | (with_reducible exact gw_call s (HPok.out s.w)) | (with_reducible exact gw_call s (HTok.out s.w)) | (with_reducible exact gw_call s (HAok.out s.w)) | (with_reducible exact gw_call s (HBok.out s.w)) | (with_reducible exact gw_call s (HFul.out s.w)))); go_big_quiet_on)))
  cases ob
  all_goals (try (have hq1 := HQ1.out rfl))
  all_goals (repeat (first | go_big_quiet_skip | (go_big_quiet_want; go_big_quiet_op; first | go_big_quiet_on | (apply Exists.intro; refine ⟨fun s => ?_, ?_⟩; (focus (first | (with_reducible exact gw_call s (HPok.out s.w)) | (with_reducible exact gw_call s (HTok.out s.w)) | (with_reducible exact gw_call s (HAok.out s.w)) | (with_reducible exact gw_call s (HBok.out s.w)) | (with_reducible exact gw_call s (HFul.out s.w)))); go_big_quiet_on))))
  all_goals cases ub
  all_goals (try (have hq2 := HQ2.out rfl))
  all_goals (repeat (first | go_big_quiet_skip | (go_big_quiet_want; go_big_quiet_op; first | go_big_quiet_on | (apply Exists.intro; refine ⟨fun s => ?_, ?_⟩; (focus (first | (with_reducible exact gw_call s (HPok.out s.w)) | (with_reducible exact gw_call s (HTok.out s.w)) | (with_reducible exact gw_call s (HAok.out s.w)) | (with_reducible exact gw_call s (HBok.out s.w)) | (with_reducible exact gw_call s (HFul.out s.w)))); go_big_quiet_on))))
  all_goals cases nb
  all_goals (repeat (first | go_big_quiet_skip | (go_big_quiet_want; go_big_quiet_op; first | go_big_quiet_on | (apply Exists.intro; refine ⟨fun s => ?_, ?_⟩; (focus (first | (with_reducible exact gw_call s (HPok.out s.w)) | (with_reducible exact gw_call s (HTok.out s.w)) | (with_reducible exact gw_call s (HAok.out s.w)) | (with_reducible exact gw_call s (HBok.out s.w)) | (with_reducible exact gw_call s (HFul.out s.w)))); go_big_quiet_on))))
  all_goals (try (cases ab))
  all_goals (try (have hq3 := HQ3.out rfl rfl))
  all_goals (repeat (first | go_big_quiet_skip | (go_big_quiet_want; go_big_quiet_op; first | go_big_quiet_on | (apply Exists.intro; refine ⟨fun s => ?_, ?_⟩; (focus (first | (with_reducible exact gw_call s (HPok.out s.w)) | (with_reducible exact gw_call s (HTok.out s.w)) | (with_reducible exact gw_call s (HAok.out s.w)) | (with_reducible exact gw_call s (HBok.out s.w)) | (with_reducible exact gw_call s (HFul.out s.w)))); go_big_quiet_on))))
  all_goals (
    refine wpQuiet_nil ?_
    rintro _ ⟨⟨wq, gq⟩, rfl⟩
    try dsimp only
    go_wp2
    go_ret
    exact ⟨rfl, gr_then HK7.out gq⟩)
end Go.Proofs.Ytbmgmolnknnaiaa
