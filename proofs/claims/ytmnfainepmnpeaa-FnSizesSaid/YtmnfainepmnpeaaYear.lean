/- Years: counted, copied, compared, in order. -/
import Derived.Test.YtmnfainepmnpeaaSlc
import Derived.Test.YtmnfainepmnpeaaRain1
import Derived.Test.YtmnfainepmnpeaaCist2
import Derived.Test.YtmnfainepmnpeaaAppAny
import Derived.Deep.RegionHeld3
namespace Go.Proofs.Ytmnfainepmnpeaa
open Go.RowKit

/-- Block B is a box that holds a year. -/
def YBox (w : World) (B : Nat) (r s : Int) (c : Value) (n : Int) : Prop :=
  w.cell? ⟨B, 0, none⟩ = some (.int .i64 r) ∧ w.cell? ⟨B, 1, none⟩ = some (.int .i64 s) ∧ w.cell? ⟨B, 2, none⟩ = some c ∧ w.cell? ⟨B, 3, none⟩ = some (.int .i64 n) ∧ B < w.heap.size
theorem YBox.kept {a b : World} {q : Option Nat} {B : Nat} {r s n : Int} {c : Value} (h : YBox a B r s c n) (hg : Gr a b q) (hr : q ≠ some B) : YBox b B r s c n :=
  ⟨World.grownBy.cell hg h.1 (Ne.symm hr), World.grownBy.cell hg h.2.1 (Ne.symm hr), World.grownBy.cell hg h.2.2.1 (Ne.symm hr), World.grownBy.cell hg h.2.2.2.1 (Ne.symm hr), Nat.lt_of_lt_of_le h.2.2.2.2 (gr_le hg)⟩
theorem YBox.on {a b : World} {B : Nat} {r s n : Int} {c : Value} (h : YBox a B r s c n) (hg : Gr a b none) : YBox b B r s c n := h.kept hg (by simp)
theorem yBox_new (w : World) (T : TypeId) (r s : Int) (c : Value) (n : Int) : YBox (w.alloc (.cells #[.int .i64 r, .int .i64 s, c, .int .i64 n] T)) w.heap.size r s c n := ⟨by simp [go_sem], by simp [go_sem], by simp [go_sem], by simp [go_sem], by simp⟩
/-- The year is in order. -/
def yearB (r s : Int) (xs : List Int) (n : Int) : Bool := inB r 1 1000000 && inB s 0 r && inB xs.length 1 400 && allB xs 0 300000 && inB n 0 1000000
theorem yearB_parts {r s n : Int} {xs : List Int} (h : yearB r s xs n = true) : (1 ≤ r ∧ r ≤ 1000000) ∧ (0 ≤ s ∧ s ≤ r) ∧ (1 ≤ xs.length ∧ xs.length ≤ 400) ∧ (∀ i, i < xs.length → 0 ≤ gi xs i ∧ gi xs i ≤ 300000) ∧ 0 ≤ n ∧ n ≤ 1000000 := by
  simp only [yearB, Bool.and_eq_true] at h
  obtain ⟨⟨⟨⟨h1, h2⟩, h3⟩, h4⟩, h5⟩ := h
  have := inB_true h3
  exact ⟨inB_true h1, inB_true h2, by omega, fun i hi => allB_get h4 hi, inB_true h5⟩
theorem yearB_mk {r s n : Int} {xs : List Int} (h1 : 1 ≤ r ∧ r ≤ 1000000) (h2 : 0 ≤ s ∧ s ≤ r) (h3 : 1 ≤ xs.length ∧ xs.length ≤ 400) (h4 : ∀ i, i < xs.length → 0 ≤ gi xs i ∧ gi xs i ≤ 300000) (h5 : 0 ≤ n ∧ n ≤ 1000000) : yearB r s xs n = true := by
  simp only [yearB, Bool.and_eq_true]
  exact ⟨⟨⟨⟨inB_mk h1, inB_mk h2⟩, inB_mk (by omega)⟩, allB_mk fun i hi => inB_mk (h4 i hi)⟩, inB_mk h5⟩
theorem szIntS_any {v : Value} {xs : List Int} (l : Int) (w : World) (h : Ints w v xs) (h0 : 0 ≤ l) (h1 : l ≤ 1048576) :
    Calls Try.prog 52 #[v, .int .i64 l] w fun e w' => e = .returned (.int .i64 (if l - xs.length < 0 then -1 else l - xs.length)) ∧ w = w' := by
  obtain ⟨_, a, cap, rfl, hcap, hmax, hat⟩ := h
  unfold maxLen at hmax
  clear hat
  by_cases hl : l - (xs.length : Int) < 0
  · rw [if_pos hl]
    go_enter Try.func52, Try.ntmps52
    go_wp2
    go_ret
    exact ⟨rfl, rfl⟩
  · rw [if_neg hl]
    go_enter Try.func52, Try.ntmps52
    go_wp2
    go_ret
    exact ⟨rfl, rfl⟩
theorem szYear_any {v : Value} {xs : List Int} (r s n : Int) (w : World) (hv : Ints w v xs) :
    Calls Try.prog 17 #[.agg #[.int .i64 r, .int .i64 s, v, .int .i64 n], .int .i64 1048576] w fun e w' => ∃ q : Int, e = .returned (.int .i64 q) ∧ (q < 0 ∨ (0 ≤ q ∧ xs.length ≤ 1048576)) ∧ Gr w w' none := by
  have HV := hid hv
  obtain ⟨_, a, cap, rfl, _, _, hat⟩ := hv
  clear hat
  by_cases h1 : (1048576 : Int) - xs.length < 0
  · go_enter Try.func17, Try.ntmps17
    go_wp2_with fail
    refine (szIntS_any _ _ (HV.out.on (by repeat (first | (with_reducible exact gr_refl _ _) | (with_reducible assumption) | (with_reducible refine gr_drew ?_) | (with_reducible refine gr_drewN ?_ _) | (with_reducible refine gr_alloc ?_ _) | (with_reducible refine gr_set ?_ (.inr (by simp; done)) _) | (with_reducible refine gr_set ?_ (.inr (by simp; omega)) _) | (with_reducible refine gr_then ?_ (by with_reducible assumption))))) (by omega) (by omega)).mono ?_
    rw [if_pos h1]
    rintro e w' ⟨rfl, rfl⟩
    go_wp2
    go_ret
    exact ⟨-1, rfl, .inl (by omega), (by repeat (first | (with_reducible exact gr_refl _ _) | (with_reducible assumption) | (with_reducible refine gr_drew ?_) | (with_reducible refine gr_drewN ?_ _) | (with_reducible refine gr_alloc ?_ _) | (with_reducible refine gr_set ?_ (.inr (by simp; done)) _) | (with_reducible refine gr_set ?_ (.inr (by simp; omega)) _) | (with_reducible refine gr_then ?_ (by with_reducible assumption))))⟩
  · have h1' : (0 : Int) ≤ 1048576 - xs.length := by omega
    go_enter Try.func17, Try.ntmps17
    go_wp2_with fail
    refine (szIntS_any _ _ (HV.out.on (by repeat (first | (with_reducible exact gr_refl _ _) | (with_reducible assumption) | (with_reducible refine gr_drew ?_) | (with_reducible refine gr_drewN ?_ _) | (with_reducible refine gr_alloc ?_ _) | (with_reducible refine gr_set ?_ (.inr (by simp; done)) _) | (with_reducible refine gr_set ?_ (.inr (by simp; omega)) _) | (with_reducible refine gr_then ?_ (by with_reducible assumption))))) (by omega) (by omega)).mono ?_
    rw [if_neg (by omega : ¬ ((1048576 : Int) - xs.length < 0))]
    rintro e w' ⟨rfl, rfl⟩
    go_wp2
    go_ret
    exact ⟨_, rfl, .inr ⟨h1', by omega⟩, (by repeat (first | (with_reducible exact gr_refl _ _) | (with_reducible assumption) | (with_reducible refine gr_drew ?_) | (with_reducible refine gr_drewN ?_ _) | (with_reducible refine gr_alloc ?_ _) | (with_reducible refine gr_set ?_ (.inr (by simp; done)) _) | (with_reducible refine gr_set ?_ (.inr (by simp; omega)) _) | (with_reducible refine gr_then ?_ (by with_reducible assumption))))⟩
def RetY (I : TypeId) (w : World) (r s : Int) (xs : List Int) (n : Int) (e : Ending) (w' : World) : Prop :=
  ∃ u, e = .returned (.agg #[.int .i64 r, .int .i64 s, u, .int .i64 n]) ∧ OwnI I w' w.heap.size u xs ∧ Gr w w' none
theorem sl_own {w : World} {B : Nat} {E : TypeId} {s n : Nat} {v : Value} {xs : List Value} (h : w.ownsRow B E s v n xs) : ∃ a c, v = .slice a n c := by
  rcases h.2 with ⟨rfl, rfl⟩ | ⟨g, cap, cur, rfl, _⟩ <;> exact ⟨_, _, rfl⟩
theorem OwnI.set {E : TypeId} {w : World} {B : Nat} {v : Value} {xs : List Int} (h : OwnI E w B v xs) {p : Addr} (hp : p.block < B) (u : Value) : OwnI E (w.setCell p u) B v xs :=
  h.kept (r := some p.block) (gr_set (gr_refl _ _) (.inl rfl) _) (by
    cases hv : v.ownBlock with
    | none => exact .inl rfl
    | some k => right; intro e; cases e; have := (h.lt _ hv).1; omega)
theorem toYear_any {v : Value} {xs : List Int} (r s n : Int) (w : World) (hv : Ints w v xs) (hl : xs.length ≤ 1048576) :
    Calls Try.prog 19 #[.agg #[.int .i64 r, .int .i64 s, v, .int .i64 n]] w (RetY 3 w r s xs n) := by
  have HV := hid hv
  obtain ⟨_, a, cap, rfl, _, _, hat⟩ := hv
  clear hat
  go_enter Try.func19, Try.ntmps19
  go_wp2_with fail
  refine (toIntS_any _ (HV.out.on (by repeat (first | (with_reducible exact gr_refl _ _) | (with_reducible assumption) | (with_reducible refine gr_drew ?_) | (with_reducible refine gr_drewN ?_ _) | (with_reducible refine gr_alloc ?_ _) | (with_reducible refine gr_set ?_ (.inr (by simp; done)) _) | (with_reducible refine gr_set ?_ (.inr (by simp; omega)) _) | (with_reducible refine gr_then ?_ (by with_reducible assumption))))) hl).mono ?_
  rintro e w1 ⟨u1, rfl, o1, g1⟩
  obtain ⟨a1, c1, rfl⟩ := sl_own o1.2
  have G1 : Gr w w1 none := gr_then (by repeat (first | (with_reducible exact gr_refl _ _) | (with_reducible assumption) | (with_reducible refine gr_drew ?_) | (with_reducible refine gr_drewN ?_ _) | (with_reducible refine gr_alloc ?_ _) | (with_reducible refine gr_set ?_ (.inr (by simp; done)) _) | (with_reducible refine gr_set ?_ (.inr (by simp; omega)) _) | (with_reducible refine gr_then ?_ (by with_reducible assumption)))) g1
  have z1 := gr_le g1
  simp only [World.size_alloc] at z1 o1
  have k3 := (gr_cell g1 w.heap.size 3 (by simp; omega)).trans (by simp [go_sem] : _ = some (Value.int .i64 n))
  have m0 := (gr_cell g1 (w.heap.size + 1 + 1) 0 (by simp)).trans (by simp [go_sem] : _ = some (Value.int .i64 r))
  have q0 := (gr_frozen g1 (w.heap.size + 1 + 1) 0 (by simp)).trans (by simp [go_sem] : _ = false)
  have m1 := (gr_cell g1 (w.heap.size + 1 + 1) 1 (by simp)).trans (by simp [go_sem] : _ = some (Value.int .i64 s))
  have q1 := (gr_frozen g1 (w.heap.size + 1 + 1) 1 (by simp)).trans (by simp [go_sem] : _ = false)
  have m3 := (gr_cell g1 (w.heap.size + 1 + 1) 3 (by simp)).trans (by simp [go_sem] : _ = some (Value.int .i64 0))
  have q3 := (gr_frozen g1 (w.heap.size + 1 + 1) 3 (by simp)).trans (by simp [go_sem] : _ = false)
  have m2 := (gr_cell g1 (w.heap.size + 1 + 1) 2 (by simp)).trans (by simp [go_sem] : _ = some (Value.slice none 0 0))
  have q2 := (gr_frozen g1 (w.heap.size + 1 + 1) 2 (by simp)).trans (by simp [go_sem] : _ = false)
  have t0 := (gr_cell g1 (w.heap.size + 1) 0 (by simp)).trans (by simp [go_sem] : _ = some (Value.int .i64 0))
  have f0 := (gr_frozen g1 (w.heap.size + 1) 0 (by simp)).trans (by simp [go_sem] : _ = false)
  have t1 := (gr_cell g1 (w.heap.size + 1) 1 (by simp)).trans (by simp [go_sem] : _ = some (Value.int .i64 0))
  have f1 := (gr_frozen g1 (w.heap.size + 1) 1 (by simp)).trans (by simp [go_sem] : _ = false)
  have t3 := (gr_cell g1 (w.heap.size + 1) 3 (by simp)).trans (by simp [go_sem] : _ = some (Value.int .i64 0))
  have f3 := (gr_frozen g1 (w.heap.size + 1) 3 (by simp)).trans (by simp [go_sem] : _ = false)
  have t2 := (gr_cell g1 (w.heap.size + 1) 2 (by simp)).trans (by simp [go_sem] : _ = some (Value.slice none 0 0))
  have f2 := (gr_frozen g1 (w.heap.size + 1) 2 (by simp)).trans (by simp [go_sem] : _ = false)
  have O1 := hid o1
  have HG := hid G1
  clear g1 o1 G1
  go_wp2
  have r0 : (((((((w1.setCell ⟨w.heap.size + 1 + 1, 2, none⟩ (.slice a1 xs.length c1)).setCell ⟨w.heap.size + 1 + 1, 3, none⟩ (.int .i64 n)).setCell ⟨w.heap.size + 1, 0, none⟩ (.int .i64 r)).setCell ⟨w.heap.size + 1, 1, none⟩ (.int .i64 s)).setCell ⟨w.heap.size + 1, 2, none⟩ (.slice a1 xs.length c1)).setCell ⟨w.heap.size + 1, 3, none⟩ (.int .i64 n))).cell? ⟨w.heap.size + 1, 0, none⟩ = some (.int .i64 r) := set_other (by simp) (set_other (by simp) (set_other (by simp) (set_same (set_other (by simp) (set_other (by simp) t0)))))
  have r1 : (((((((w1.setCell ⟨w.heap.size + 1 + 1, 2, none⟩ (.slice a1 xs.length c1)).setCell ⟨w.heap.size + 1 + 1, 3, none⟩ (.int .i64 n)).setCell ⟨w.heap.size + 1, 0, none⟩ (.int .i64 r)).setCell ⟨w.heap.size + 1, 1, none⟩ (.int .i64 s)).setCell ⟨w.heap.size + 1, 2, none⟩ (.slice a1 xs.length c1)).setCell ⟨w.heap.size + 1, 3, none⟩ (.int .i64 n))).cell? ⟨w.heap.size + 1, 1, none⟩ = some (.int .i64 s) := set_other (by simp) (set_other (by simp) (set_same (set_other (by simp) (set_other (by simp) (set_other (by simp) t1)))))
  have r2 : (((((((w1.setCell ⟨w.heap.size + 1 + 1, 2, none⟩ (.slice a1 xs.length c1)).setCell ⟨w.heap.size + 1 + 1, 3, none⟩ (.int .i64 n)).setCell ⟨w.heap.size + 1, 0, none⟩ (.int .i64 r)).setCell ⟨w.heap.size + 1, 1, none⟩ (.int .i64 s)).setCell ⟨w.heap.size + 1, 2, none⟩ (.slice a1 xs.length c1)).setCell ⟨w.heap.size + 1, 3, none⟩ (.int .i64 n))).cell? ⟨w.heap.size + 1, 2, none⟩ = some (.slice a1 xs.length c1) := set_other (by simp) (set_same (set_other (by simp) (set_other (by simp) (set_other (by simp) (set_other (by simp) t2)))))
  have r3 : (((((((w1.setCell ⟨w.heap.size + 1 + 1, 2, none⟩ (.slice a1 xs.length c1)).setCell ⟨w.heap.size + 1 + 1, 3, none⟩ (.int .i64 n)).setCell ⟨w.heap.size + 1, 0, none⟩ (.int .i64 r)).setCell ⟨w.heap.size + 1, 1, none⟩ (.int .i64 s)).setCell ⟨w.heap.size + 1, 2, none⟩ (.slice a1 xs.length c1)).setCell ⟨w.heap.size + 1, 3, none⟩ (.int .i64 n))).cell? ⟨w.heap.size + 1, 3, none⟩ = some (.int .i64 n) := set_same (set_other (by simp) (set_other (by simp) (set_other (by simp) (set_other (by simp) (set_other (by simp) t3)))))
  refine bodyPost_ret (v := .agg #[.int .i64 r, .int .i64 s, .slice a1 xs.length c1, .int .i64 n]) (by simp [results, Try.results19, go_sem, r0, r1, r2, r3]) rfl ⟨_, rfl, ?_, ?_⟩
  · exact OwnI.mono (B := w.heap.size + 1 + 1 + 1) ((((((O1.out.set (by simp) _).set (by simp) _).set (by simp) _).set (by simp) _).set (by simp) _).set (by simp) _) (by omega)
  · exact gr_set (gr_set (gr_set (gr_set (gr_set (gr_set HG.out (.inr (by simp; omega)) _) (.inr (by simp; omega)) _) (.inr (by simp)) _) (.inr (by simp)) _) (.inr (by simp)) _) (.inr (by simp)) _
theorem eqYear_same {v v' : Value} {xs : List Int} (r s n : Int) (w : World) (hv : Ints w v xs) (hv' : Ints w v' xs) :
    Calls Try.prog 21 #[.agg #[.int .i64 r, .int .i64 s, v, .int .i64 n], .agg #[.int .i64 r, .int .i64 s, v', .int .i64 n]] w fun e w' => e = .returned (.bool true) ∧ Gr w w' none := by
  have HV := hid hv
  have HV' := hid hv'
  obtain ⟨_, a, cap, rfl, _, _, hat⟩ := hv
  obtain ⟨_, a', cap', rfl, _, _, hat'⟩ := hv'
  clear hat hat'
  go_enter Try.func21, Try.ntmps21
  go_wp2_with fail
  refine (eqIntS_any _ (HV.out.on (by repeat (first | (with_reducible exact gr_refl _ _) | (with_reducible assumption) | (with_reducible refine gr_drew ?_) | (with_reducible refine gr_drewN ?_ _) | (with_reducible refine gr_alloc ?_ _) | (with_reducible refine gr_set ?_ (.inr (by simp; done)) _) | (with_reducible refine gr_set ?_ (.inr (by simp; omega)) _) | (with_reducible refine gr_then ?_ (by with_reducible assumption))))) (HV'.out.on (by repeat (first | (with_reducible exact gr_refl _ _) | (with_reducible assumption) | (with_reducible refine gr_drew ?_) | (with_reducible refine gr_drewN ?_ _) | (with_reducible refine gr_alloc ?_ _) | (with_reducible refine gr_set ?_ (.inr (by simp; done)) _) | (with_reducible refine gr_set ?_ (.inr (by simp; omega)) _) | (with_reducible refine gr_then ?_ (by with_reducible assumption)))))).mono ?_
  simp only [decide_true]
  rintro e w1 ⟨rfl, g1⟩
  have c1 := gr_cell g1
  have G1 : Gr w w1 none := gr_then (by repeat (first | (with_reducible exact gr_refl _ _) | (with_reducible assumption) | (with_reducible refine gr_drew ?_) | (with_reducible refine gr_drewN ?_ _) | (with_reducible refine gr_alloc ?_ _) | (with_reducible refine gr_set ?_ (.inr (by simp; done)) _) | (with_reducible refine gr_set ?_ (.inr (by simp; omega)) _) | (with_reducible refine gr_then ?_ (by with_reducible assumption)))) g1
  go_wp2
  go_ret
  exact ⟨rfl, G1⟩
theorem markYear_any {B : Nat} {v : Value} {xs : List Int} (r s n : Int) (w : World) (hv : OwnI 3 w B v xs) (hl : xs.length ≤ 1048576) (k0 : Int) (h0 : 0 ≤ k0) (h1 : k0 ≤ 1000) :
    Calls Try.prog 26 #[.agg #[.int .i64 r, .int .i64 s, v, .int .i64 n], .int .i64 k0] w fun e w' => e = .returned (.int .i64 (k0 + xs.length)) ∧ OwnI 3 w' B v (marks k0 xs.length) ∧ Gr w w' v.ownBlock := by
  have HV := hid hv
  obtain ⟨a, cap, rfl⟩ := sl_own hv.2
  clear hv
  go_enter Try.func26, Try.ntmps26
  go_wp2_with fail
  refine (markIntS_any _ _ (HV.out.on (gr_alloc (gr_refl _ _) _)) hl h0 (by omega)).mono ?_
  rintro e w1 ⟨rfl, o1, g1⟩
  go_wp2
  go_ret
  exact ⟨rfl, o1, gr_same (gr_mono (gr_alloc (gr_refl _ _) _)) g1⟩
theorem heldYear_any {v : Value} (m : Nat) (r s n : Int) (w : World) (k0 : Int) (hv : Ints w v (marks k0 m)) (hl : m ≤ 1048576) (h0 : 0 ≤ k0) (h1 : k0 ≤ 1000) :
    Calls Try.prog 27 #[.agg #[.int .i64 r, .int .i64 s, v, .int .i64 n], .int .i64 k0] w fun e w' => e = .returned (.int .i64 (k0 + m)) ∧ Gr w w' none := by
  have HV := hid hv
  obtain ⟨_, a, cap, rfl, _, _, hat⟩ := hv
  simp only [marks_length] at HV ⊢
  clear hat
  go_enter Try.func27, Try.ntmps27
  go_wp2_with fail
  refine (heldIntS_any m _ _ (HV.out.on (gr_alloc (gr_refl _ _) _)) hl h0 (by omega)).mono ?_
  rintro e w' ⟨rfl, rfl⟩
  go_wp2
  go_ret
  exact ⟨rfl, gr_alloc (gr_refl _ _) _⟩
theorem yearOk_any {v : Value} {xs : List Int} (r s n : Int) (w : World) (hv : Ints w v xs) :
    Calls Try.prog 20 #[.agg #[.int .i64 r, .int .i64 s, v, .int .i64 n]] w fun e w' => e = .returned (.bool (yearB r s xs n)) ∧ Gr w w' none := by
  have HV := hid hv
  obtain ⟨_, a, cap, rfl, hcap, hmax, hat⟩ := hv
  unfold maxLen at hmax
  clear hat
  go_enter Try.func20, Try.ntmps20
  go_wp2_with (first | (go_at_call 55; refine (within_any _ _ _ _).mono ?_; rintro e w' ⟨rfl, rfl⟩) | (go_at_call 56; refine (allWithin_any _ _ _ (HV.out.on (by repeat (first | (with_reducible exact gr_refl _ _) | (with_reducible assumption) | (with_reducible refine gr_drew ?_) | (with_reducible refine gr_drewN ?_ _) | (with_reducible refine gr_alloc ?_ _) | (with_reducible refine gr_set ?_ (.inr (by simp; done)) _) | (with_reducible refine gr_set ?_ (.inr (by simp; omega)) _) | (with_reducible refine gr_then ?_ (by with_reducible assumption)))))).mono ?_; rintro e w' ⟨rfl, rfl⟩))
  all_goals go_ret
  all_goals exact ⟨by simp [yearB, *], (by repeat (first | (with_reducible exact gr_refl _ _) | (with_reducible assumption) | (with_reducible refine gr_drew ?_) | (with_reducible refine gr_drewN ?_ _) | (with_reducible refine gr_alloc ?_ _) | (with_reducible refine gr_set ?_ (.inr (by simp; done)) _) | (with_reducible refine gr_set ?_ (.inr (by simp; omega)) _) | (with_reducible refine gr_then ?_ (by with_reducible assumption))))⟩
theorem sYearOk_any {v : Value} {xs : List Int} (r s n : Int) (w : World) (hv : Ints w v xs) :
    Calls Try.prog 18 #[.agg #[.int .i64 r, .int .i64 s, v, .int .i64 n]] w fun e w' => e = .returned (.bool (yearB r s xs n)) ∧ Gr w w' none := by
  obtain ⟨_, a, cap, rfl, hcap, hmax, hat⟩ := hv
  unfold maxLen at hmax
  go_enter Try.func18, Try.ntmps18
  go_wp2
  go_loop [3] (fun i => ∃ k : Nat, k ≤ xs.length ∧ i = .int .i64 k ∧ AllTo xs 0 300000 k) (fun i => xs.length - (intOf i).toNat)
  case atStart => exact ⟨0, Nat.zero_le _, rfl, allTo_zero _ _ _⟩
  case round =>
    obtain ⟨k, hk, rfl, hall⟩ := hrel
    have HA := hid hall
    clear hall
    by_cases hlt : k < xs.length
    · obtain ⟨b, off, rfl, hc⟩ : ∃ b off, a = some ⟨b, off, none⟩ ∧ IntsAt w b off xs := by
        rcases hat with h0 | h0
        · subst h0; simp at hlt
        · exact h0
      have hcell := hc.kept (gr_alloc (gr_refl w none) (.cells #[.int .i64 r, .int .i64 s, .slice (some ⟨b, off, none⟩) xs.length cap, .int .i64 n] 27)) (by simp) k hlt
      clear hat hc
      cases hb : inB (gi xs k) 0 300000
      · go_wp2_with (go_at_call 53; refine (l01In_any _ _ _ _).mono ?_; rintro e w' ⟨rfl, rfl⟩)
        go_ret
        exact ⟨ret_bool (by rw [yearB, allB_no hlt hb]; simp), (by repeat (first | (with_reducible exact gr_refl _ _) | (with_reducible assumption) | (with_reducible refine gr_drew ?_) | (with_reducible refine gr_drewN ?_ _) | (with_reducible refine gr_alloc ?_ _) | (with_reducible refine gr_set ?_ (.inr (by simp; done)) _) | (with_reducible refine gr_set ?_ (.inr (by simp; omega)) _) | (with_reducible refine gr_then ?_ (by with_reducible assumption))))⟩
      · go_wp2_with (go_at_call 53; refine (l01In_any _ _ _ _).mono ?_; rintro e w' ⟨rfl, rfl⟩)
        go_round
        case rel => exact ⟨k + 1, by omega, by go_num, allTo_succ HA.out hb⟩
        case measure => simp [intOf]; omega
    · clear hat
      have hall : allB xs 0 300000 = true := allB_mk fun i hi' => HA.out i (by omega)
      have HB := hid hall
      clear hall
      go_wp2_with (go_at_call 53; refine (l01In_any _ _ _ _).mono ?_; rintro e w' ⟨rfl, rfl⟩)
      all_goals go_ret
      all_goals exact ⟨ret_bool (by rw [yearB, HB.out, Bool.and_true]; simp [*]), (by repeat (first | (with_reducible exact gr_refl _ _) | (with_reducible assumption) | (with_reducible refine gr_drew ?_) | (with_reducible refine gr_drewN ?_ _) | (with_reducible refine gr_alloc ?_ _) | (with_reducible refine gr_set ?_ (.inr (by simp; done)) _) | (with_reducible refine gr_set ?_ (.inr (by simp; omega)) _) | (with_reducible refine gr_then ?_ (by with_reducible assumption))))⟩
end Go.Proofs.Ytmnfainepmnpeaa
