/- A year, run: each day is told. -/
import Derived.Test.YtmnfainepmnpeaaYearP
import Derived.Deep.LoopGhost
namespace Go.Proofs.Ytmnfainepmnpeaa
open Go.RowKit

/-- Block B holds these cells. -/
def Blk (w : World) (B : Nat) (cs : Array Value) (T : TypeId) : Prop := w.heap[B]? = some (.cells cs T (0, 0))
theorem Blk.lt {w : World} {B : Nat} {cs : Array Value} {T : TypeId} (h : Blk w B cs T) : B < w.heap.size := lt_of_block h
theorem Blk.kept {a b : World} {B : Nat} {cs : Array Value} {T : TypeId} {r : Option Nat} (h : Blk a B cs T) (hg : Gr a b r) (hr : r ≠ some B) : Blk b B cs T := (hg.block B h.lt (fun e => hr e.symm)).trans h
theorem Blk.on {a b : World} {B : Nat} {cs : Array Value} {T : TypeId} (h : Blk a B cs T) (hg : Gr a b none) : Blk b B cs T := h.kept hg (by simp)
theorem blk_new (w : World) (cs : Array Value) (T : TypeId) : Blk (w.alloc (.cells cs T)) w.heap.size cs T := heap_alloc_new _ _
/-- Every block of another type than I and T lies behind as it lay before. -/
def KeptT (I T : TypeId) (a b : World) : Prop := ∀ (B : Nat) (cs : Array Value) (U : TypeId), U ≠ I → U ≠ T → Blk a B cs U → Blk b B cs U
/-- What a function over a year asks of the one that is told: it is called on each day, and keeps a record of its own, 'J k' behind k days. It may write its own box Bc and new blocks (of type I) alone. -/
structure Told (I T : TypeId) (w : World) (Bc : Nat) (r s n : Int) (xs : List Int) (K : Nat) (caps : List Value) (J : Nat → World → Prop) : Prop where
  on : ∀ k a b, J k a → Gr a b none → J k b
  set : ∀ k a B cs U o u, U ≠ I → U ≠ T → Blk a B cs U → w.heap.size ≤ B → J k a → J k (a.setCell ⟨B, o, none⟩ u)
  call : ∀ k a, k < xs.length → J k a → Gr w a (some Bc) → Calls Try.prog K ([Value.int .i64 k, Value.int .i64 (lostAt r s n xs k), Value.int .i64 (drawnAt r s n xs k), Value.int .i64 (levAt r s n xs (k + 1))] ++ caps).toArray a fun e b => e = .returned (.tuple #[]) ∧ J (k + 1) b ∧ Gr w b (some Bc) ∧ KeptT I T a b
theorem enterK {f : FuncId} {fn : Func} {c : Code} (hf : Try.prog.funcs[f]? = some fn) (hname : (fn.name == "runtime.NumGoroutine") = false) (hb : fn.body = some c) (args : Array Value) (w : World) :
    (callFunc f args).run Try.prog w = .ok (.enter f args) w := by
  have h1 : fn.name ≠ "runtime.NumGoroutine" := by simpa using hname
  simp [callFunc, hf, h1, hb]
def Ran (w : World) (Bc m : Nat) (J : Nat → World → Prop) (e : Ending) (w' : World) : Prop := e = .returned (.tuple #[]) ∧ J m w' ∧ Gr w w' (some Bc)
theorem run_one {v : Value} {xs : List Int} (r s n : Int) (w : World) (K : Nat) (c0:Value) (Bc : Nat) (J : Nat → World → Prop) (hv : Ints w v xs) (hy : yearB r s xs n = true) (hvb : v.ownBlock ≠ some Bc)
    (T : TypeId) (hT1 : (27 : TypeId) ≠ T) (hT2 : (57 : TypeId) ≠ T) (ht : Told 3 T w Bc r s n xs K [c0] J) (h0 : J 0 w) (eK : ∀ args w, (callFunc K args).run Try.prog w = .ok (.enter K args) w) :
    Calls Try.prog 62 #[.agg #[.int .i64 r, .int .i64 s, v, .int .i64 n], .func (.func K) #[] #[c0]] w (Ran w Bc xs.length J) := by
  have HV := hid hv
  obtain ⟨_, a, cap, rfl, hcap, hmax, hat⟩ := hv
  unfold maxLen at hmax
  obtain ⟨hr, hs, hl, hx, hn⟩ := yearB_parts hy
  have HY := hid hy
  have HT := hid ht
  have H0 := hid h0
  have HX := hid hx
  obtain ⟨b, off, rfl, hc⟩ : ∃ b off, a = some ⟨b, off, none⟩ ∧ IntsAt w b off xs := by
    rcases hat with h0 | h0
    · subst h0; simp at hl
    · exact h0
  have HC := hid hc
  have hbc : b ≠ Bc := fun e => hvb (by rw [e]; rfl)
  have HBC := hid hbc
  have hbw : b < w.heap.size := hc.lt (by intro e; subst e; simp at hl)
  have hlen' : (xs.length : Int) ≤ 400 := by omega
  clear hy ht h0 hx hat hc hbc hvb
  go_enter Try.func62, Try.ntmps62
  go_wp2_with fail
  have Y0 := hid ((blk_new w #[.int .i64 r, .int .i64 s, .slice (some ⟨b, off, none⟩) xs.length cap, .int .i64 n] 27).on (gr_alloc (gr_refl _ _) (.cells #[.int .i64 r, .int .i64 s] 57)))
  have C0 := hid (blk_new (w.alloc (.cells #[.int .i64 r, .int .i64 s, .slice (some ⟨b, off, none⟩) xs.length cap, .int .i64 n] 27)) #[.int .i64 r, .int .i64 s] 57)
  have J0 := hid (HT.out.on _ _ _ H0.out (gr_alloc (gr_alloc (gr_refl w none) (.cells #[.int .i64 r, .int .i64 s, .slice (some ⟨b, off, none⟩) xs.length cap, .int .i64 n] 27)) (.cells #[.int .i64 r, .int .i64 s] 57)))
  simp only [World.size_alloc] at C0
  go_loopg [19] (xs.length + 1) (fun gk i wr => ∃ k : Nat, gk + k = xs.length + 1 ∧ k ≤ xs.length ∧ i = .int .i64 k ∧ Blk wr w.heap.size #[.int .i64 r, .int .i64 s, .slice (some ⟨b, off, none⟩) xs.length cap, .int .i64 n] 27 ∧ Blk wr (w.heap.size + 1) #[.int .i64 r, .int .i64 (levAt r s n xs k)] 57 ∧ J k wr ∧ Gr w wr (some Bc))
  case atStart => exact ⟨0, by omega, by omega, rfl, Y0.out, C0.out, J0.out, gr_alloc (gr_alloc (gr_refl _ _) _) _⟩
  case round =>
    obtain ⟨k, hgk, hk, rfl, hY, hC, hJ, hg⟩ := hrel
    have HGK := hid hgk
    clear hgk Y0 C0 J0
    by_cases hlt : k < xs.length
    · have hlt' : (k : Int) < xs.length := by omega
      have hcx := (gr_cellr hg hbw (by simp; exact Ne.symm HBC.out)).trans (HC.out k hlt)
      have hxk := HX.out k hlt
      obtain ⟨bd1, bd2, bd3, bd4, -⟩ := day_bd HY.out hlt
      have c0' := Go.Joins.cell_of_block hC 0
      have c1' := Go.Joins.cell_of_block hC 1
      have y3 := Go.Joins.cell_of_block hY 3
      simp at c0' c1' y3
      have e1 : pourO r (levAt r s n xs k) (gi xs k) = lostAt r s n xs k := rfl
      have e2 : takeO r (pourL r (levAt r s n xs k) (gi xs k)) n = drawnAt r s n xs k := rfl
      have e3 : takeL r (pourL r (levAt r s n xs k) (gi xs k)) n = levAt r s n xs (k + 1) := rfl
      have HCALL := hid (HT.out.call k)
      generalize hL2 : levAt r s n xs (k + 1) = L2 at *
      generalize levAt r s n xs k = L at *
      generalize gi xs k = X at *
      generalize hPL : pourL r L X = PL at *
      generalize lostAt r s n xs k = LO at *
      generalize drawnAt r s n xs k = DR at *
      have HL2 := hid hL2
      have HPL := hid hPL
      have E1 := hid e1
      have E2 := hid e2
      have E3 := hid e3
      have HYB := hid hY
      have HCB := hid hC
      have HJ := hid hJ
      have HG := hid hg
      clear e1 e2 e3 hY hC hJ hg hL2 hPL
      go_wp2_with fail
      refine (pour_any _ _ _ _).mono ?_
      rw [E1.out, HPL.out]
      rintro e w2 ⟨rfl, g2⟩
      have y32 := World.grownBy.cell g2 y3 (by simp)
      have l2 : w.heap.size < w2.heap.size := by have := gr_le g2; have := HYB.out.lt; omega
      have G2 := hid g2
      clear g2 c0' c1' y3 hcx
      go_wp2_with fail
      refine (takeOut_any _ _ _ _).mono ?_
      rw [E3.out, E2.out]
      rintro e w3 ⟨rfl, g3⟩
      have g23 := gr_then (gr_alloc G2.out _) g3
      have Y3 := HYB.out.on g23
      have C3 := HCB.out.on g23
      have J3 := hid (HT.out.on _ _ _ HJ.out g23)
      have G3 := hid (gr_then HG.out g23)
      have c0' := Go.Joins.cell_of_block C3 0
      have c1' := Go.Joins.cell_of_block C3 1
      have f0' := Go.Joins.unfrozen_of_block C3 0
      have f1' := Go.Joins.unfrozen_of_block C3 1
      have l3 : w.heap.size + 1 < w3.heap.size := C3.lt
      simp at c0' c1'
      have HY3 := hid Y3
      have HC3 := hid C3
      clear g3 g23 Y3 C3 y32
      go_wp2_with fail
      have b1 := Go.Joins.block_setCell HC3.out (i := 0) (.int .i64 r)
      have b2 := Go.Joins.block_setCell b1 (i := 1) (.int .i64 L2)
      have C4 : Blk ((((w3.setCell ⟨w.heap.size + 1, 0, none⟩ (.int .i64 r)).setCell ⟨w.heap.size + 1, 1, none⟩ (.int .i64 L2))).alloc (.cells #[.int .i64 r, .int .i64 L2] 57)) (w.heap.size + 1) #[.int .i64 r, .int .i64 L2] 57 := Blk.on (show Blk (((w3.setCell ⟨w.heap.size + 1, 0, none⟩ (.int .i64 r)).setCell ⟨w.heap.size + 1, 1, none⟩ (.int .i64 L2))) (w.heap.size + 1) #[.int .i64 r, .int .i64 L2] 57 by unfold Blk; simpa using b2) (gr_alloc (gr_refl _ _) _)
      have Y4 : Blk ((((w3.setCell ⟨w.heap.size + 1, 0, none⟩ (.int .i64 r)).setCell ⟨w.heap.size + 1, 1, none⟩ (.int .i64 L2))).alloc (.cells #[.int .i64 r, .int .i64 L2] 57)) w.heap.size #[.int .i64 r, .int .i64 s, .slice (some ⟨b, off, none⟩) xs.length cap, .int .i64 n] 27 := by
        refine Blk.on ?_ (gr_alloc (gr_refl _ _) _)
        exact (HY3.out.kept (gr_set (p := ⟨w.heap.size + 1, 0, none⟩) (gr_refl w3 (some (w.heap.size + 1))) (.inl rfl) _) (by simp)).kept (gr_set (p := ⟨w.heap.size + 1, 1, none⟩) (gr_refl _ (some (w.heap.size + 1))) (.inl rfl) _) (by simp)
      have J4 : J k ((((w3.setCell ⟨w.heap.size + 1, 0, none⟩ (.int .i64 r)).setCell ⟨w.heap.size + 1, 1, none⟩ (.int .i64 L2))).alloc (.cells #[.int .i64 r, .int .i64 L2] 57)) := HT.out.on _ _ _ (HT.out.set _ _ _ _ _ 1 (.int .i64 L2) (by decide) hT2 (show Blk (w3.setCell ⟨w.heap.size + 1, 0, none⟩ (.int .i64 r)) (w.heap.size + 1) _ 57 from b1) (by omega) (HT.out.set _ _ _ _ _ 0 (.int .i64 r) (by decide) hT2 HC3.out (by omega) J3.out)) (gr_alloc (gr_refl _ _) _)
      have G4 : Gr w ((((w3.setCell ⟨w.heap.size + 1, 0, none⟩ (.int .i64 r)).setCell ⟨w.heap.size + 1, 1, none⟩ (.int .i64 L2))).alloc (.cells #[.int .i64 r, .int .i64 L2] 57)) (some Bc) := gr_alloc (gr_set (gr_set G3.out (.inr (by simp)) _) (.inr (by simp)) _) _
      have HB4 := hid (And.intro C4 (And.intro Y4 (And.intro J4 G4)))
      clear b1 b2 C4 Y4 J4 G4
      refine (HCALL.out _ hlt HB4.out.2.2.1 HB4.out.2.2.2).mono ?_
      rintro e w5 ⟨rfl, J5, G5, K5⟩
      have Y5 := hid (K5 _ _ _ (by decide) hT1 HB4.out.2.1)
      have C5 := hid (K5 _ _ _ (by decide) hT2 HB4.out.1)
      have HJ5 := hid J5
      have HG5 := hid G5
      clear J5 G5 K5 c0' c1' f0' f1' HYB HCB HJ HG HY3 HC3 J3 G3 G2
      go_wp2
      go_roundg (gk - 1)
      case measure => have := HGK.out; omega
      case rel => exact ⟨k + 1, by have := HGK.out; omega, by omega, by go_num, Y5.out, by rw [HL2.out]; exact C5.out, HJ5.out, HG5.out⟩
    · have hkl : k = xs.length := by omega
      subst hkl
      have HJ := hid hJ
      have HG := hid hg
      clear hJ hg hY hC
      go_wp2
      go_end0
      exact ⟨rfl, HJ.out, HG.out⟩
theorem run_two {v : Value} {xs : List Int} (r s n : Int) (w : World) (K : Nat) (c0:Value)(c1:Value) (Bc : Nat) (J : Nat → World → Prop) (hv : Ints w v xs) (hy : yearB r s xs n = true) (hvb : v.ownBlock ≠ some Bc)
    (T : TypeId) (hT1 : (27 : TypeId) ≠ T) (hT2 : (57 : TypeId) ≠ T) (ht : Told 3 T w Bc r s n xs K [c0,c1] J) (h0 : J 0 w) (eK : ∀ args w, (callFunc K args).run Try.prog w = .ok (.enter K args) w) :
    Calls Try.prog 62 #[.agg #[.int .i64 r, .int .i64 s, v, .int .i64 n], .func (.func K) #[] #[c0,c1]] w (Ran w Bc xs.length J) := by
  have HV := hid hv
  obtain ⟨_, a, cap, rfl, hcap, hmax, hat⟩ := hv
  unfold maxLen at hmax
  obtain ⟨hr, hs, hl, hx, hn⟩ := yearB_parts hy
  have HY := hid hy
  have HT := hid ht
  have H0 := hid h0
  have HX := hid hx
  obtain ⟨b, off, rfl, hc⟩ : ∃ b off, a = some ⟨b, off, none⟩ ∧ IntsAt w b off xs := by
    rcases hat with h0 | h0
    · subst h0; simp at hl
    · exact h0
  have HC := hid hc
  have hbc : b ≠ Bc := fun e => hvb (by rw [e]; rfl)
  have HBC := hid hbc
  have hbw : b < w.heap.size := hc.lt (by intro e; subst e; simp at hl)
  have hlen' : (xs.length : Int) ≤ 400 := by omega
  clear hy ht h0 hx hat hc hbc hvb
  go_enter Try.func62, Try.ntmps62
  go_wp2_with fail
  have Y0 := hid ((blk_new w #[.int .i64 r, .int .i64 s, .slice (some ⟨b, off, none⟩) xs.length cap, .int .i64 n] 27).on (gr_alloc (gr_refl _ _) (.cells #[.int .i64 r, .int .i64 s] 57)))
  have C0 := hid (blk_new (w.alloc (.cells #[.int .i64 r, .int .i64 s, .slice (some ⟨b, off, none⟩) xs.length cap, .int .i64 n] 27)) #[.int .i64 r, .int .i64 s] 57)
  have J0 := hid (HT.out.on _ _ _ H0.out (gr_alloc (gr_alloc (gr_refl w none) (.cells #[.int .i64 r, .int .i64 s, .slice (some ⟨b, off, none⟩) xs.length cap, .int .i64 n] 27)) (.cells #[.int .i64 r, .int .i64 s] 57)))
  simp only [World.size_alloc] at C0
  go_loopg [19] (xs.length + 1) (fun gk i wr => ∃ k : Nat, gk + k = xs.length + 1 ∧ k ≤ xs.length ∧ i = .int .i64 k ∧ Blk wr w.heap.size #[.int .i64 r, .int .i64 s, .slice (some ⟨b, off, none⟩) xs.length cap, .int .i64 n] 27 ∧ Blk wr (w.heap.size + 1) #[.int .i64 r, .int .i64 (levAt r s n xs k)] 57 ∧ J k wr ∧ Gr w wr (some Bc))
  case atStart => exact ⟨0, by omega, by omega, rfl, Y0.out, C0.out, J0.out, gr_alloc (gr_alloc (gr_refl _ _) _) _⟩
  case round =>
    obtain ⟨k, hgk, hk, rfl, hY, hC, hJ, hg⟩ := hrel
    have HGK := hid hgk
    clear hgk Y0 C0 J0
    by_cases hlt : k < xs.length
    · have hlt' : (k : Int) < xs.length := by omega
      have hcx := (gr_cellr hg hbw (by simp; exact Ne.symm HBC.out)).trans (HC.out k hlt)
      have hxk := HX.out k hlt
      obtain ⟨bd1, bd2, bd3, bd4, -⟩ := day_bd HY.out hlt
      have c0' := Go.Joins.cell_of_block hC 0
      have c1' := Go.Joins.cell_of_block hC 1
      have y3 := Go.Joins.cell_of_block hY 3
      simp at c0' c1' y3
      have e1 : pourO r (levAt r s n xs k) (gi xs k) = lostAt r s n xs k := rfl
      have e2 : takeO r (pourL r (levAt r s n xs k) (gi xs k)) n = drawnAt r s n xs k := rfl
      have e3 : takeL r (pourL r (levAt r s n xs k) (gi xs k)) n = levAt r s n xs (k + 1) := rfl
      have HCALL := hid (HT.out.call k)
      generalize hL2 : levAt r s n xs (k + 1) = L2 at *
      generalize levAt r s n xs k = L at *
      generalize gi xs k = X at *
      generalize hPL : pourL r L X = PL at *
      generalize lostAt r s n xs k = LO at *
      generalize drawnAt r s n xs k = DR at *
      have HL2 := hid hL2
      have HPL := hid hPL
      have E1 := hid e1
      have E2 := hid e2
      have E3 := hid e3
      have HYB := hid hY
      have HCB := hid hC
      have HJ := hid hJ
      have HG := hid hg
      clear e1 e2 e3 hY hC hJ hg hL2 hPL
      go_wp2_with fail
      refine (pour_any _ _ _ _).mono ?_
      rw [E1.out, HPL.out]
      rintro e w2 ⟨rfl, g2⟩
      have y32 := World.grownBy.cell g2 y3 (by simp)
      have l2 : w.heap.size < w2.heap.size := by have := gr_le g2; have := HYB.out.lt; omega
      have G2 := hid g2
      clear g2 c0' c1' y3 hcx
      go_wp2_with fail
      refine (takeOut_any _ _ _ _).mono ?_
      rw [E3.out, E2.out]
      rintro e w3 ⟨rfl, g3⟩
      have g23 := gr_then (gr_alloc G2.out _) g3
      have Y3 := HYB.out.on g23
      have C3 := HCB.out.on g23
      have J3 := hid (HT.out.on _ _ _ HJ.out g23)
      have G3 := hid (gr_then HG.out g23)
      have c0' := Go.Joins.cell_of_block C3 0
      have c1' := Go.Joins.cell_of_block C3 1
      have f0' := Go.Joins.unfrozen_of_block C3 0
      have f1' := Go.Joins.unfrozen_of_block C3 1
      have l3 : w.heap.size + 1 < w3.heap.size := C3.lt
      simp at c0' c1'
      have HY3 := hid Y3
      have HC3 := hid C3
      clear g3 g23 Y3 C3 y32
      go_wp2_with fail
      have b1 := Go.Joins.block_setCell HC3.out (i := 0) (.int .i64 r)
      have b2 := Go.Joins.block_setCell b1 (i := 1) (.int .i64 L2)
      have C4 : Blk ((((w3.setCell ⟨w.heap.size + 1, 0, none⟩ (.int .i64 r)).setCell ⟨w.heap.size + 1, 1, none⟩ (.int .i64 L2))).alloc (.cells #[.int .i64 r, .int .i64 L2] 57)) (w.heap.size + 1) #[.int .i64 r, .int .i64 L2] 57 := Blk.on (show Blk (((w3.setCell ⟨w.heap.size + 1, 0, none⟩ (.int .i64 r)).setCell ⟨w.heap.size + 1, 1, none⟩ (.int .i64 L2))) (w.heap.size + 1) #[.int .i64 r, .int .i64 L2] 57 by unfold Blk; simpa using b2) (gr_alloc (gr_refl _ _) _)
      have Y4 : Blk ((((w3.setCell ⟨w.heap.size + 1, 0, none⟩ (.int .i64 r)).setCell ⟨w.heap.size + 1, 1, none⟩ (.int .i64 L2))).alloc (.cells #[.int .i64 r, .int .i64 L2] 57)) w.heap.size #[.int .i64 r, .int .i64 s, .slice (some ⟨b, off, none⟩) xs.length cap, .int .i64 n] 27 := by
        refine Blk.on ?_ (gr_alloc (gr_refl _ _) _)
        exact (HY3.out.kept (gr_set (p := ⟨w.heap.size + 1, 0, none⟩) (gr_refl w3 (some (w.heap.size + 1))) (.inl rfl) _) (by simp)).kept (gr_set (p := ⟨w.heap.size + 1, 1, none⟩) (gr_refl _ (some (w.heap.size + 1))) (.inl rfl) _) (by simp)
      have J4 : J k ((((w3.setCell ⟨w.heap.size + 1, 0, none⟩ (.int .i64 r)).setCell ⟨w.heap.size + 1, 1, none⟩ (.int .i64 L2))).alloc (.cells #[.int .i64 r, .int .i64 L2] 57)) := HT.out.on _ _ _ (HT.out.set _ _ _ _ _ 1 (.int .i64 L2) (by decide) hT2 (show Blk (w3.setCell ⟨w.heap.size + 1, 0, none⟩ (.int .i64 r)) (w.heap.size + 1) _ 57 from b1) (by omega) (HT.out.set _ _ _ _ _ 0 (.int .i64 r) (by decide) hT2 HC3.out (by omega) J3.out)) (gr_alloc (gr_refl _ _) _)
      have G4 : Gr w ((((w3.setCell ⟨w.heap.size + 1, 0, none⟩ (.int .i64 r)).setCell ⟨w.heap.size + 1, 1, none⟩ (.int .i64 L2))).alloc (.cells #[.int .i64 r, .int .i64 L2] 57)) (some Bc) := gr_alloc (gr_set (gr_set G3.out (.inr (by simp)) _) (.inr (by simp)) _) _
      have HB4 := hid (And.intro C4 (And.intro Y4 (And.intro J4 G4)))
      clear b1 b2 C4 Y4 J4 G4
      refine (HCALL.out _ hlt HB4.out.2.2.1 HB4.out.2.2.2).mono ?_
      rintro e w5 ⟨rfl, J5, G5, K5⟩
      have Y5 := hid (K5 _ _ _ (by decide) hT1 HB4.out.2.1)
      have C5 := hid (K5 _ _ _ (by decide) hT2 HB4.out.1)
      have HJ5 := hid J5
      have HG5 := hid G5
      clear J5 G5 K5 c0' c1' f0' f1' HYB HCB HJ HG HY3 HC3 J3 G3 G2
      go_wp2
      go_roundg (gk - 1)
      case measure => have := HGK.out; omega
      case rel => exact ⟨k + 1, by have := HGK.out; omega, by omega, by go_num, Y5.out, by rw [HL2.out]; exact C5.out, HJ5.out, HG5.out⟩
    · have hkl : k = xs.length := by omega
      subst hkl
      have HJ := hid hJ
      have HG := hid hg
      clear hJ hg hY hC
      go_wp2
      go_end0
      exact ⟨rfl, HJ.out, HG.out⟩
end Go.Proofs.Ytmnfainepmnpeaa
