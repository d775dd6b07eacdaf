/- Chains: counted, copied, compared. -/
import Derived.Test.YtbbacodhklanjaaCists
import Derived.Test.YtbbacodhklanjaaSlc
namespace Go.Proofs.Ytbbacodhklanjaa
open Go.RowKit

theorem OwnP.set {E : TypeId} {w : World} {B : Nat} {v : Value} {ps : List (Int × Int)} (h : OwnP E w B v ps) {p : Addr} (hp : p.block < B) (u : Value) : OwnP E (w.setCell p u) B v ps :=
  h.kept (r := some p.block) (gr_set (gr_refl _ _) (.inl rfl) _) (by
    cases hv : v.ownBlock with
    | none => exact .inl rfl
    | some k => right; intro e; cases e; have := (h.lt _ hv).1; omega)
theorem OwnI.set {E : TypeId} {w : World} {B : Nat} {v : Value} {xs : List Int} (h : OwnI E w B v xs) {p : Addr} (hp : p.block < B) (u : Value) : OwnI E (w.setCell p u) B v xs :=
  h.kept (r := some p.block) (gr_set (gr_refl _ _) (.inl rfl) _) (by
    cases hv : v.ownBlock with
    | none => exact .inl rfl
    | some k => right; intro e; cases e; have := (h.lt _ hv).1; omega)
theorem OwnP.mono' {E : TypeId} {w : World} {B B' : Nat} {v : Value} {ps : List (Int × Int)} (h : OwnP E w B v ps) (hB : B' ≤ B) : OwnP E w B' v ps := by
  refine ⟨h.1, h.2.1, ?_⟩
  rcases h.2.2 with h0 | ⟨g, cap, cur, e, hb, r⟩
  · exact .inl h0
  · exact .inr ⟨g, cap, cur, e, Nat.le_trans hB hb, r⟩
def RetCh (C I : TypeId) (w : World) (ps : List (Int × Int)) (xs : List Int) (e : Ending) (w' : World) : Prop :=
  ∃ u v, e = .returned (.agg #[u, v]) ∧ OwnP C w' w.heap.size u ps ∧ OwnI I w' w.heap.size v xs ∧ Gr w w' none
theorem toChain_any {u v : Value} {ps : List (Int × Int)} {xs : List Int} (w : World) (hu : Pairs w u ps) (hv : Ints w v xs) (h1 : ps.length ≤ 1048576) (h2 : xs.length ≤ 1048576) :
    Calls Try.prog 42 #[.agg #[u, v]] w (RetCh 25 3 w ps xs) := by
  have HU := hid hu
  have HV := hid hv
  obtain ⟨_, a, cap, rfl, _, _, hat⟩ := hu
  obtain ⟨_, a', cap', rfl, _, _, hat'⟩ := hv
  clear hat hat'
  go_enter Try.func42, Try.ntmps42
  go_wp2_with fail
  refine (toCisternS_any _ (HU.out.on (by repeat (first | (with_reducible exact gr_refl _ _) | (with_reducible assumption) | (with_reducible refine gr_drew ?_) | (with_reducible refine gr_drewN ?_ _) | (with_reducible refine gr_alloc ?_ _) | (with_reducible refine gr_set ?_ (.inr (by simp; done)) _) | (with_reducible refine gr_set ?_ (.inr (by simp; omega)) _) | (with_reducible refine gr_then ?_ (by with_reducible assumption))))) h1).mono ?_
  rintro e w1 ⟨u1, rfl, o1, g1⟩
  obtain ⟨a1, cp1, rfl⟩ : ∃ a c, u1 = .slice a ps.length c := by obtain ⟨_, a, c, e, _⟩ := o1.pairs; exact ⟨a, c, e⟩
  have G1 : Gr w w1 none := gr_then (by repeat (first | (with_reducible exact gr_refl _ _) | (with_reducible assumption) | (with_reducible refine gr_drew ?_) | (with_reducible refine gr_drewN ?_ _) | (with_reducible refine gr_alloc ?_ _) | (with_reducible refine gr_set ?_ (.inr (by simp; done)) _) | (with_reducible refine gr_set ?_ (.inr (by simp; omega)) _) | (with_reducible refine gr_then ?_ (by with_reducible assumption)))) g1
  have hz1 : w.heap.size + 3 ≤ w1.heap.size := by have := gr_le g1; simp at this; omega
  have k1 := (gr_cell g1 w.heap.size 1 (by simp; omega)).trans (by simp [go_sem] : _ = some (Value.slice a' xs.length cap'))
  have k30 := (gr_cell g1 (w.heap.size + 1 + 1) 0 (by simp)).trans (by simp [go_sem] : _ = some (Value.slice none 0 0))
  have k31 := (gr_cell g1 (w.heap.size + 1 + 1) 1 (by simp)).trans (by simp [go_sem] : _ = some (Value.slice none 0 0))
  have k20 := (gr_cell g1 (w.heap.size + 1) 0 (by simp)).trans (by simp [go_sem] : _ = some (Value.slice none 0 0))
  have k21 := (gr_cell g1 (w.heap.size + 1) 1 (by simp)).trans (by simp [go_sem] : _ = some (Value.slice none 0 0))
  have f30 := (gr_frozen g1 (w.heap.size + 1 + 1) 0 (by simp)).trans (by simp [go_sem] : _ = false)
  have f31 := (gr_frozen g1 (w.heap.size + 1 + 1) 1 (by simp)).trans (by simp [go_sem] : _ = false)
  have f20 := (gr_frozen g1 (w.heap.size + 1) 0 (by simp)).trans (by simp [go_sem] : _ = false)
  have f21 := (gr_frozen g1 (w.heap.size + 1) 1 (by simp)).trans (by simp [go_sem] : _ = false)
  have O1 := hid o1
  clear g1 o1
  go_wp2_with fail
  have G1s : Gr w (w1.setCell ⟨w.heap.size + 1 + 1, 0, none⟩ (.slice a1 ps.length cp1)) none := gr_set G1 (.inr (by simp; omega)) _
  refine (toIntS_any _ (HV.out.on G1s) h2).mono ?_
  rintro e w2 ⟨v1, rfl, o2, g2⟩
  obtain ⟨a2, cp2, rfl⟩ : ∃ a c, v1 = .slice a xs.length c := by obtain ⟨_, a, c, e, _⟩ := o2.ints; exact ⟨a, c, e⟩
  have m30 := World.grownBy.cell g2 (set_same (v := .slice a1 ps.length cp1) k30) (by simp)
  have m31 := World.grownBy.cell g2 (set_other (v := .slice a1 ps.length cp1) (q := ⟨w.heap.size + 1 + 1, 0, none⟩) (by simp) k31) (by simp)
  have m20 := World.grownBy.cell g2 (set_other (v := .slice a1 ps.length cp1) (q := ⟨w.heap.size + 1 + 1, 0, none⟩) (by simp) k20) (by simp)
  have m21 := World.grownBy.cell g2 (set_other (v := .slice a1 ps.length cp1) (q := ⟨w.heap.size + 1 + 1, 0, none⟩) (by simp) k21) (by simp)
  have n31 := (gr_frozen g2 (w.heap.size + 1 + 1) 1 (by simp; omega)).trans (by simp [f31] : _ = false)
  have n20 := (gr_frozen g2 (w.heap.size + 1) 0 (by simp; omega)).trans (by simp [f20] : _ = false)
  have n21 := (gr_frozen g2 (w.heap.size + 1) 1 (by simp; omega)).trans (by simp [f21] : _ = false)
  have O2 := hid o2
  have GG := hid (And.intro G1s g2)
  clear o2 k1 k30 k31 k20 k21 f30 f31 f20 f21 G1 G1s g2
  go_wp2
  have q2 : Gr w w2 none := gr_then GG.out.1 GG.out.2
  have z2 := gr_le GG.out.2
  simp only [World.size_setCell] at z2
  refine bodyPost_ret (v := .agg #[.slice a1 ps.length cp1, .slice a2 xs.length cp2]) (by simp [results, Try.results42, go_sem, m20, m21]) rfl ⟨_, _, rfl, ?_, ?_, ?_⟩
  · have := O1.out
    simp only [World.size_alloc] at this
    exact OwnP.mono' (B := w.heap.size + 1 + 1 + 1) (((((this.set (p := ⟨w.heap.size + 1 + 1, 0, none⟩) (by simp) _).on GG.out.2).set (p := ⟨w.heap.size + 1 + 1, 1, none⟩) (by simp) _).set (p := ⟨w.heap.size + 1, 0, none⟩) (by simp <;> omega) _).set (p := ⟨w.heap.size + 1, 1, none⟩) (by simp <;> omega) _) (by omega)
  · have := O2.out
    exact OwnI.mono (((this.set (p := ⟨w.heap.size + 1 + 1, 1, none⟩) (by simp; omega) _).set (p := ⟨w.heap.size + 1, 0, none⟩) (by simp; omega) _).set (p := ⟨w.heap.size + 1, 1, none⟩) (by simp; omega) _) (by simp; omega)
  · exact gr_set (gr_set (gr_set q2 (.inr (by simp; omega)) _) (.inr (by simp)) _) (.inr (by simp)) _
theorem szChain_any {u v : Value} {ps : List (Int × Int)} {xs : List Int} (w : World) (hu : Pairs w u ps) (hv : Ints w v xs) :
    Calls Try.prog 40 #[.agg #[u, v], .int .i64 1048576] w fun e w' => ∃ s : Int, e = .returned (.int .i64 s) ∧ (s < 0 ∨ (0 ≤ s ∧ ps.length ≤ 1048576 ∧ xs.length ≤ 1048576)) ∧ Gr w w' none := by
  have HU := hid hu
  have HV := hid hv
  obtain ⟨_, a, cap, rfl, _, _, hat⟩ := hu
  obtain ⟨_, a', cap', rfl, _, _, hat'⟩ := hv
  clear hat hat'
  by_cases h1 : (1048576 : Int) - ps.length < 0
  · go_enter Try.func40, Try.ntmps40
    go_wp2_with fail
    refine (szCisternS_any _ _ (HU.out.on (by repeat (first | (with_reducible exact gr_refl _ _) | (with_reducible assumption) | (with_reducible refine gr_drew ?_) | (with_reducible refine gr_drewN ?_ _) | (with_reducible refine gr_alloc ?_ _) | (with_reducible refine gr_set ?_ (.inr (by simp; done)) _) | (with_reducible refine gr_set ?_ (.inr (by simp; omega)) _) | (with_reducible refine gr_then ?_ (by with_reducible assumption))))) (by omega) (by omega)).mono ?_
    rw [if_pos h1]
    rintro e w1 ⟨rfl, g1⟩
    go_wp2
    go_ret
    exact ⟨-1, rfl, .inl (by omega), (by repeat (first | (with_reducible exact gr_refl _ _) | (with_reducible assumption) | (with_reducible refine gr_drew ?_) | (with_reducible refine gr_drewN ?_ _) | (with_reducible refine gr_alloc ?_ _) | (with_reducible refine gr_set ?_ (.inr (by simp; done)) _) | (with_reducible refine gr_set ?_ (.inr (by simp; omega)) _) | (with_reducible refine gr_then ?_ (by with_reducible assumption))))⟩
  · have h1' : (0 : Int) ≤ 1048576 - ps.length := by omega
    by_cases h2 : (1048576 : Int) - ps.length - xs.length < 0
    · go_enter Try.func40, Try.ntmps40
      go_wp2_with fail
      refine (szCisternS_any _ _ (HU.out.on (by repeat (first | (with_reducible exact gr_refl _ _) | (with_reducible assumption) | (with_reducible refine gr_drew ?_) | (with_reducible refine gr_drewN ?_ _) | (with_reducible refine gr_alloc ?_ _) | (with_reducible refine gr_set ?_ (.inr (by simp; done)) _) | (with_reducible refine gr_set ?_ (.inr (by simp; omega)) _) | (with_reducible refine gr_then ?_ (by with_reducible assumption))))) (by omega) (by omega)).mono ?_
      rw [if_neg (by omega : ¬ ((1048576 : Int) - ps.length < 0))]
      rintro e w1 ⟨rfl, g1⟩
      have c1 := gr_cell g1
      have G1 : Gr w w1 none := gr_then (by repeat (first | (with_reducible exact gr_refl _ _) | (with_reducible assumption) | (with_reducible refine gr_drew ?_) | (with_reducible refine gr_drewN ?_ _) | (with_reducible refine gr_alloc ?_ _) | (with_reducible refine gr_set ?_ (.inr (by simp; done)) _) | (with_reducible refine gr_set ?_ (.inr (by simp; omega)) _) | (with_reducible refine gr_then ?_ (by with_reducible assumption)))) g1
      go_wp2_with fail
      refine (szIntS_any _ _ (HV.out.on G1) (by omega) (by omega)).mono ?_
      rw [if_pos h2]
      rintro e w2 ⟨rfl, g2⟩
      go_wp2
      go_ret
      exact ⟨-1, rfl, .inl (by omega), gr_then G1 g2⟩
    · have h2' : (0 : Int) ≤ 1048576 - ps.length - xs.length := by omega
      go_enter Try.func40, Try.ntmps40
      go_wp2_with fail
      refine (szCisternS_any _ _ (HU.out.on (by repeat (first | (with_reducible exact gr_refl _ _) | (with_reducible assumption) | (with_reducible refine gr_drew ?_) | (with_reducible refine gr_drewN ?_ _) | (with_reducible refine gr_alloc ?_ _) | (with_reducible refine gr_set ?_ (.inr (by simp; done)) _) | (with_reducible refine gr_set ?_ (.inr (by simp; omega)) _) | (with_reducible refine gr_then ?_ (by with_reducible assumption))))) (by omega) (by omega)).mono ?_
      rw [if_neg (by omega : ¬ ((1048576 : Int) - ps.length < 0))]
      rintro e w1 ⟨rfl, g1⟩
      have c1 := gr_cell g1
      have G1 : Gr w w1 none := gr_then (by repeat (first | (with_reducible exact gr_refl _ _) | (with_reducible assumption) | (with_reducible refine gr_drew ?_) | (with_reducible refine gr_drewN ?_ _) | (with_reducible refine gr_alloc ?_ _) | (with_reducible refine gr_set ?_ (.inr (by simp; done)) _) | (with_reducible refine gr_set ?_ (.inr (by simp; omega)) _) | (with_reducible refine gr_then ?_ (by with_reducible assumption)))) g1
      go_wp2_with fail
      refine (szIntS_any _ _ (HV.out.on G1) (by omega) (by omega)).mono ?_
      rw [if_neg (by omega : ¬ ((1048576 : Int) - ps.length - xs.length < 0))]
      rintro e w2 ⟨rfl, g2⟩
      go_wp2
      go_ret
      exact ⟨_, rfl, .inr ⟨h2', by omega, by omega⟩, gr_then G1 g2⟩
theorem eqChain_any {u v u' v' : Value} {ps qs : List (Int × Int)} {xs ys : List Int} (w : World) (hu : Pairs w u ps) (hv : Ints w v xs) (hu' : Pairs w u' qs) (hv' : Ints w v' ys) :
    Calls Try.prog 44 #[.agg #[u, v], .agg #[u', v']] w fun e w' => e = .returned (.bool (decide (ps = qs) && decide (xs = ys))) ∧ Gr w w' none := by
  have HU := hid hu
  have HV := hid hv
  have HU' := hid hu'
  have HV' := hid hv'
  obtain ⟨_, a, cap, rfl, _, _, hat⟩ := hu
  obtain ⟨_, a', cap', rfl, _, _, hat'⟩ := hv
  clear hat hat'
  obtain ⟨_, b, bap, rfl, _, _, hat⟩ := hu'
  obtain ⟨_, b', bap', rfl, _, _, hat'⟩ := hv'
  clear hat hat'
  generalize hp : decide (ps = qs) = P
  generalize hq : decide (xs = ys) = Q
  have HP := hid hp
  have HQ := hid hq
  clear hp hq
  go_enter Try.func44, Try.ntmps44
  go_wp2_with fail
  refine (eqCisternS_any _ (HU.out.on (by repeat (first | (with_reducible exact gr_refl _ _) | (with_reducible assumption) | (with_reducible refine gr_drew ?_) | (with_reducible refine gr_drewN ?_ _) | (with_reducible refine gr_alloc ?_ _) | (with_reducible refine gr_set ?_ (.inr (by simp; done)) _) | (with_reducible refine gr_set ?_ (.inr (by simp; omega)) _) | (with_reducible refine gr_then ?_ (by with_reducible assumption))))) (HU'.out.on (by repeat (first | (with_reducible exact gr_refl _ _) | (with_reducible assumption) | (with_reducible refine gr_drew ?_) | (with_reducible refine gr_drewN ?_ _) | (with_reducible refine gr_alloc ?_ _) | (with_reducible refine gr_set ?_ (.inr (by simp; done)) _) | (with_reducible refine gr_set ?_ (.inr (by simp; omega)) _) | (with_reducible refine gr_then ?_ (by with_reducible assumption)))))).mono ?_
  rw [HP.out]
  rintro e w1 ⟨rfl, g1⟩
  have c1 := gr_cell g1
  have G1 : Gr w w1 none := gr_then (by repeat (first | (with_reducible exact gr_refl _ _) | (with_reducible assumption) | (with_reducible refine gr_drew ?_) | (with_reducible refine gr_drewN ?_ _) | (with_reducible refine gr_alloc ?_ _) | (with_reducible refine gr_set ?_ (.inr (by simp; done)) _) | (with_reducible refine gr_set ?_ (.inr (by simp; omega)) _) | (with_reducible refine gr_then ?_ (by with_reducible assumption)))) g1
  cases P
  · go_wp2
    go_ret
    exact ⟨rfl, G1⟩
  · go_wp2_with fail
    refine (eqIntS_any _ (HV.out.on G1) (HV'.out.on G1)).mono ?_
    rw [HQ.out]
    rintro e w2 ⟨rfl, g2⟩
    cases Q
    · go_wp2
      go_ret
      exact ⟨rfl, gr_then G1 g2⟩
    · go_wp2
      go_ret
      exact ⟨rfl, gr_then G1 g2⟩
end Go.Proofs.Ytbbacodhklanjaa
