/- The law over the balance of two cisterns, walked. -/
import Derived.Test.YtbmgmolnknnaiaaBal
import Derived.Deep.DeepCutAuto
import Derived.Deep.DrawnRows
namespace Go.Proofs.Ytbmgmolnknnaiaa
open Go.RowKit
attribute [local go_sem ↓] Go.wp_at_zero Go.wp_at_succ

theorem held2 {w a b : World} {p q r s : Addr} {x y z u : Value} (h : a.cell? p = some x ∧ a.cell? q = some y ∧ a.cell? r = some z ∧ a.cell? s = some u ∧ Gr w a none) (hg : Gr a b none) :
    b.cell? p = some x ∧ b.cell? q = some y ∧ b.cell? r = some z ∧ b.cell? s = some u ∧ Gr w b none :=
  ⟨cell_on hg h.1, cell_on hg h.2.1, cell_on hg h.2.2.1, cell_on hg h.2.2.2.1, gr_then h.2.2.2.2 hg⟩
/-- A box of two zeros that the call itself made. -/
def BF (W : World) (P : Nat) : Prop := W.cell? ⟨P, 0, none⟩ = some (.int .i64 0) ∧ W.cell? ⟨P, 1, none⟩ = some (.int .i64 0) ∧ W.frozen? ⟨P, 0, none⟩ = false ∧ W.frozen? ⟨P, 1, none⟩ = false ∧ ¬ W.heap.size = P ∧ ¬ P = W.heap.size ∧ P < W.heap.size
theorem bf_new {X Y W : World} {T : TypeId} (hY : Gr (X.alloc (.cells #[.int .i64 0, .int .i64 0] T)) Y none) (h : Gr Y W none) : BF W X.heap.size := by
  have g := gr_then hY h
  have hl : X.heap.size < W.heap.size := by have := gr_le g; simp at this; omega
  exact ⟨cell_on g (by simp), cell_on g (by simp), (gr_frozen g _ _ (by simp)).trans (by simp), (gr_frozen g _ _ (by simp)).trans (by simp), by omega, by omega, hl⟩
theorem bf_on {V Y W : World} {P : Nat} (k : BF V P) (hY : Gr V Y none) (h : Gr Y W none) : BF W P := by
  have g := gr_then hY h
  obtain ⟨h1, h2, h3, h4, -, -, h5⟩ := k
  have hl := gr_le g
  exact ⟨cell_on g h1, cell_on g h2, (gr_frozen g _ _ h5).trans h3, (gr_frozen g _ _ h5).trans h4, by omega, by omega, by omega⟩
theorem toCisternX (a p : Int) (w : World) :
    Calls Try.prog 7 #[.agg #[.int .i64 a, .int .i64 p]] w fun e w' => e = .returned (.agg #[.int .i64 a, .int .i64 p]) ∧ ((w.alloc (.cells #[.int .i64 a, .int .i64 p] 23)).alloc (.cells #[.int .i64 a, .int .i64 p] 24)).alloc (.cells #[.int .i64 a, .int .i64 p] 24) = w' := by
  go_enter Try.func7, Try.ntmps7
  go_wp2
  go_returns
  exact ⟨rfl, rfl⟩
set_option maxHeartbeats 8000000 in
theorem walk_FnExactBalance (r l s m x : Int) (w : World) (_ : I64 r) (_ : I64 l) (_ : I64 s) (_ : I64 m) (_ : I64 x) :
    Calls Try.prog 3 #[.agg #[.int .i64 r, .int .i64 l], .agg #[.int .i64 s, .int .i64 m], .int .i64 x] w fun e w' => e = .returned (.bool true) ∧ Gr w w' none := by
  generalize hA : balA r l s m x = A
  generalize hB : balB r l s m x = B
  generalize hN : balN r l s m x = N
  have HA := hid hA
  have HB := hid hB
  have HN := hid hN
  clear hA hB hN
  have HS0 : Hid (((((w.alloc (.cells #[.int .i64 r, .int .i64 l] 23)).alloc (.cells #[.int .i64 s, .int .i64 m] 23))).cell? ⟨w.heap.size, 0, none⟩ = some (.int .i64 r) ∧ (((w.alloc (.cells #[.int .i64 r, .int .i64 l] 23)).alloc (.cells #[.int .i64 s, .int .i64 m] 23))).cell? ⟨w.heap.size, 1, none⟩ = some (.int .i64 l) ∧ (((w.alloc (.cells #[.int .i64 r, .int .i64 l] 23)).alloc (.cells #[.int .i64 s, .int .i64 m] 23))).cell? ⟨w.heap.size + 1, 0, none⟩ = some (.int .i64 s) ∧ (((w.alloc (.cells #[.int .i64 r, .int .i64 l] 23)).alloc (.cells #[.int .i64 s, .int .i64 m] 23))).cell? ⟨w.heap.size + 1, 1, none⟩ = some (.int .i64 m)) ∧ Gr w (((w.alloc (.cells #[.int .i64 r, .int .i64 l] 23)).alloc (.cells #[.int .i64 s, .int .i64 m] 23))) none) := ⟨⟨by simp [go_sem], by simp [go_sem], by simp [go_sem], by simp [go_sem]⟩, gr_alloc (gr_alloc (gr_refl _ _) _) _⟩
  have HSU : Hid (∀ W W' : World, ((W.cell? ⟨w.heap.size, 0, none⟩ = some (.int .i64 r) ∧ W.cell? ⟨w.heap.size, 1, none⟩ = some (.int .i64 l) ∧ W.cell? ⟨w.heap.size + 1, 0, none⟩ = some (.int .i64 s) ∧ W.cell? ⟨w.heap.size + 1, 1, none⟩ = some (.int .i64 m)) ∧ Gr w W none) → Gr W W' none → ((W'.cell? ⟨w.heap.size, 0, none⟩ = some (.int .i64 r) ∧ W'.cell? ⟨w.heap.size, 1, none⟩ = some (.int .i64 l) ∧ W'.cell? ⟨w.heap.size + 1, 0, none⟩ = some (.int .i64 s) ∧ W'.cell? ⟨w.heap.size + 1, 1, none⟩ = some (.int .i64 m)) ∧ Gr w W' none)) := fun W W' h g => ⟨⟨cell_on g h.1.1, cell_on g h.1.2.1, cell_on g h.1.2.2.1, cell_on g h.1.2.2.2⟩, gr_then h.2 g⟩
  have HG0 : Hid (∀ W' : World, Gr (((w.alloc (.cells #[.int .i64 r, .int .i64 l] 23)).alloc (.cells #[.int .i64 s, .int .i64 m] 23))) W' none → ((W'.cell? ⟨w.heap.size, 0, none⟩ = some (.int .i64 r) ∧ W'.cell? ⟨w.heap.size, 1, none⟩ = some (.int .i64 l) ∧ W'.cell? ⟨w.heap.size + 1, 0, none⟩ = some (.int .i64 s) ∧ W'.cell? ⟨w.heap.size + 1, 1, none⟩ = some (.int .i64 m)) ∧ Gr w W' none)) := fun W' g => HSU.out _ _ HS0.out g
  go_enter Try.func3, Try.ntmps3
  go_upto_region 1 with fail
  go_cut [7, 8, 9] (fun p q n wx => ∃ P Q, p = .pointer (some ⟨P, 0, none⟩) ∧ q = .pointer (some ⟨Q, 0, none⟩) ∧ n = .int .i64 N ∧ wx.cell? ⟨P, 0, none⟩ = some (.int .i64 r) ∧ wx.cell? ⟨P, 1, none⟩ = some (.int .i64 A) ∧ wx.cell? ⟨Q, 0, none⟩ = some (.int .i64 s) ∧ wx.cell? ⟨Q, 1, none⟩ = some (.int .i64 B) ∧ Gr (((w.alloc (.cells #[.int .i64 r, .int .i64 l] 23)).alloc (.cells #[.int .i64 s, .int .i64 m] 23))) wx none)
  case first =>
    go_region_held3 (fun w' => (w'.cell? ⟨w.heap.size, 0, none⟩ = some (.int .i64 r) ∧ w'.cell? ⟨w.heap.size, 1, none⟩ = some (.int .i64 l) ∧ w'.cell? ⟨w.heap.size + 1, 0, none⟩ = some (.int .i64 s) ∧ w'.cell? ⟨w.heap.size + 1, 1, none⟩ = some (.int .i64 m)) ∧ Gr w w' none)
      ((refine HG0.out _ ?_; repeat (first | (with_reducible exact gr_refl _ _) | (with_reducible assumption) | (with_reducible refine gr_drew ?_) | (with_reducible refine gr_alloc ?_ _) | ((with_reducible refine gr_set ?_ (.inr ?_) _); rotate_left; (focus (first | omega | (simp; done) | (simp; omega)))) | (with_reducible refine gr_then ?_ g3) | (with_reducible refine gr_then ?_ g2) | (with_reducible refine gr_then ?_ g1))))
      (first
        | (go_at_call 7; (with_reducible refine (toCistern_any r l _).mono ?_); rintro e w1 ⟨rfl, g1⟩; have z1 := gr_le g1; (try simp only [World.size_alloc, World.size_drew] at z1); (try ((with_reducible have ka0 := bf_new (gr_drew (gr_refl _ _)) g1) ; (try simp only [World.size_alloc] at ka0))); (try ((with_reducible have ka1 := bf_new (gr_drew (gr_alloc (gr_refl _ _) _)) g1) ; (try simp only [World.size_alloc] at ka1))))
        | (go_at_call 7; (with_reducible refine (toCistern_any s m _).mono ?_); rintro e w2 ⟨rfl, g2⟩; have z2 := gr_le g2; (try simp only [World.size_alloc, World.size_drew] at z2); (try (first | (with_reducible have ka0 := bf_on ka0 (gr_refl _ _) g2) | (with_reducible have ka0 := bf_on ka0 (gr_alloc (gr_refl _ _) _) g2) | (with_reducible have ka0 := bf_on ka0 (gr_alloc (gr_alloc (gr_refl _ _) _) _) g2))); (try (first | (with_reducible have ka1 := bf_on ka1 (gr_refl _ _) g2) | (with_reducible have ka1 := bf_on ka1 (gr_alloc (gr_refl _ _) _) g2) | (with_reducible have ka1 := bf_on ka1 (gr_alloc (gr_alloc (gr_refl _ _) _) _) g2))); (try ((with_reducible have kb0 := bf_new (gr_refl _ _) g2) ; (try simp only [World.size_alloc] at kb0))); (try ((with_reducible have kb1 := bf_new (gr_alloc (gr_refl _ _) _) g2) ; (try simp only [World.size_alloc] at kb1))))
        | (go_at_call 6; refine (sBalance_any _ _ _ _ _ _).mono ?_; rw [HA.out, HB.out, HN.out]; rintro e w3 ⟨rfl, g3⟩; have z3 := gr_le g3; (try simp only [World.size_alloc, World.size_drew] at z3); (try (first | (with_reducible have ka0 := bf_on ka0 (gr_refl _ _) g3) | (with_reducible have ka0 := bf_on ka0 (gr_alloc (gr_refl _ _) _) g3) | (with_reducible have ka0 := bf_on ka0 (gr_alloc (gr_alloc (gr_refl _ _) _) _) g3))); (try (first | (with_reducible have ka1 := bf_on ka1 (gr_refl _ _) g3) | (with_reducible have ka1 := bf_on ka1 (gr_alloc (gr_refl _ _) _) g3) | (with_reducible have ka1 := bf_on ka1 (gr_alloc (gr_alloc (gr_refl _ _) _) _) g3))); (try (first | (with_reducible have kb0 := bf_on kb0 (gr_refl _ _) g3) | (with_reducible have kb0 := bf_on kb0 (gr_alloc (gr_refl _ _) _) g3) | (with_reducible have kb0 := bf_on kb0 (gr_alloc (gr_alloc (gr_refl _ _) _) _) g3))); (try (first | (with_reducible have kb1 := bf_on kb1 (gr_refl _ _) g3) | (with_reducible have kb1 := bf_on kb1 (gr_alloc (gr_refl _ _) _) g3) | (with_reducible have kb1 := bf_on kb1 (gr_alloc (gr_alloc (gr_refl _ _) _) _) g3))); (try ((with_reducible have kc0 := bf_new (gr_refl _ _) g3) ; (try simp only [World.size_alloc] at kc0))); (try ((with_reducible have kc1 := bf_new (gr_alloc (gr_refl _ _) _) g3) ; (try simp only [World.size_alloc] at kc1))); (try (obtain ⟨ka0a, ka0b, ka0c, ka0d, ka0e, ka0f, ka0g⟩ := ka0)); (try (obtain ⟨ka1a, ka1b, ka1c, ka1d, ka1e, ka1f, ka1g⟩ := ka1)); (try (obtain ⟨kb0a, kb0b, kb0c, kb0d, kb0e, kb0f, kb0g⟩ := kb0)); (try (obtain ⟨kb1a, kb1b, kb1c, kb1d, kb1e, kb1f, kb1g⟩ := kb1)); (try (obtain ⟨kc0a, kc0b, kc0c, kc0d, kc0e, kc0f, kc0g⟩ := kc0)); (try (obtain ⟨kc1a, kc1b, kc1c, kc1d, kc1e, kc1f, kc1g⟩ := kc1))))
    all_goals (
      go_wp2_with fail
      go_meet
      refine ⟨_, _, rfl, rfl, rfl, ?_, ?_, ?_, ?_, ?_⟩
      · first | (simp [go_sem, *]; done) | trace_state
      · first | (simp [go_sem, *]; done) | trace_state
      · first | (simp [go_sem, *]; done) | trace_state
      · first | (simp [go_sem, *]; done) | trace_state
      · repeat (first | (with_reducible exact gr_refl _ _) | (with_reducible assumption) | (with_reducible refine gr_drew ?_) | (with_reducible refine gr_alloc ?_ _) | ((with_reducible refine gr_set ?_ (.inr ?_) _); rotate_left; (focus (first | omega | (simp; done) | (simp; omega)))) | (with_reducible refine gr_then ?_ g3) | (with_reducible refine gr_then ?_ g2) | (with_reducible refine gr_then ?_ g1)))
  case rest =>
    obtain ⟨P, Q, rfl, rfl, rfl, p0, p1, q0, q1, GC⟩ := hcut
    have HG1 : Hid (∀ W' : World, Gr wc W' none → ((W'.cell? ⟨w.heap.size, 0, none⟩ = some (.int .i64 r) ∧ W'.cell? ⟨w.heap.size, 1, none⟩ = some (.int .i64 l) ∧ W'.cell? ⟨w.heap.size + 1, 0, none⟩ = some (.int .i64 s) ∧ W'.cell? ⟨w.heap.size + 1, 1, none⟩ = some (.int .i64 m)) ∧ Gr w W' none)) := fun W' g => HG0.out _ (gr_then GC g)
    have HP := hid (And.intro p0 (And.intro p1 (And.intro q0 q1)))
    have HGC := hid GC
    clear p0 p1 q0 q1 GC HG0 HS0 HSU
    go_upto_region 2 with fail
    go_cut [10, 11, 12] (fun p q n wx => ∃ P Q, p = .pointer (some ⟨P, 0, none⟩) ∧ q = .pointer (some ⟨Q, 0, none⟩) ∧ n = .int .i64 N ∧ wx.cell? ⟨P, 0, none⟩ = some (.int .i64 r) ∧ wx.cell? ⟨P, 1, none⟩ = some (.int .i64 A) ∧ wx.cell? ⟨Q, 0, none⟩ = some (.int .i64 s) ∧ wx.cell? ⟨Q, 1, none⟩ = some (.int .i64 B) ∧ Gr wc wx none)
    case first =>
      go_region_held3 (fun w' => (w'.cell? ⟨w.heap.size, 0, none⟩ = some (.int .i64 r) ∧ w'.cell? ⟨w.heap.size, 1, none⟩ = some (.int .i64 l) ∧ w'.cell? ⟨w.heap.size + 1, 0, none⟩ = some (.int .i64 s) ∧ w'.cell? ⟨w.heap.size + 1, 1, none⟩ = some (.int .i64 m)) ∧ Gr w w' none)
        ((refine HG1.out _ ?_; repeat (first | (with_reducible exact gr_refl _ _) | (with_reducible assumption) | (with_reducible refine gr_drew ?_) | (with_reducible refine gr_alloc ?_ _) | ((with_reducible refine gr_set ?_ (.inr ?_) _); rotate_left; (focus (first | omega | (simp; done) | (simp; omega)))) | (with_reducible refine gr_then ?_ g3) | (with_reducible refine gr_then ?_ g2) | (with_reducible refine gr_then ?_ g1))))
        (first
          | (go_at_call 7; (with_reducible refine (toCistern_any r l _).mono ?_); rintro e w1 ⟨rfl, g1⟩; have z1 := gr_le g1; (try simp only [World.size_alloc, World.size_drew] at z1); (try ((with_reducible have ka0 := bf_new (gr_drew (gr_refl _ _)) g1) ; (try simp only [World.size_alloc] at ka0))); (try ((with_reducible have ka1 := bf_new (gr_drew (gr_alloc (gr_refl _ _) _)) g1) ; (try simp only [World.size_alloc] at ka1))))
          | (go_at_call 7; (with_reducible refine (toCistern_any s m _).mono ?_); rintro e w2 ⟨rfl, g2⟩; have z2 := gr_le g2; (try simp only [World.size_alloc, World.size_drew] at z2); (try (first | (with_reducible have ka0 := bf_on ka0 (gr_refl _ _) g2) | (with_reducible have ka0 := bf_on ka0 (gr_alloc (gr_refl _ _) _) g2) | (with_reducible have ka0 := bf_on ka0 (gr_alloc (gr_alloc (gr_refl _ _) _) _) g2))); (try (first | (with_reducible have ka1 := bf_on ka1 (gr_refl _ _) g2) | (with_reducible have ka1 := bf_on ka1 (gr_alloc (gr_refl _ _) _) g2) | (with_reducible have ka1 := bf_on ka1 (gr_alloc (gr_alloc (gr_refl _ _) _) _) g2))); (try ((with_reducible have kb0 := bf_new (gr_refl _ _) g2) ; (try simp only [World.size_alloc] at kb0))); (try ((with_reducible have kb1 := bf_new (gr_alloc (gr_refl _ _) _) g2) ; (try simp only [World.size_alloc] at kb1))))
          | (go_at_call 8; refine (balance_any _ _ _ _ _ _).mono ?_; rw [HA.out, HB.out, HN.out]; rintro e w3 ⟨rfl, g3⟩; have z3 := gr_le g3; (try simp only [World.size_alloc, World.size_drew] at z3); (try (first | (with_reducible have ka0 := bf_on ka0 (gr_refl _ _) g3) | (with_reducible have ka0 := bf_on ka0 (gr_alloc (gr_refl _ _) _) g3) | (with_reducible have ka0 := bf_on ka0 (gr_alloc (gr_alloc (gr_refl _ _) _) _) g3))); (try (first | (with_reducible have ka1 := bf_on ka1 (gr_refl _ _) g3) | (with_reducible have ka1 := bf_on ka1 (gr_alloc (gr_refl _ _) _) g3) | (with_reducible have ka1 := bf_on ka1 (gr_alloc (gr_alloc (gr_refl _ _) _) _) g3))); (try (first | (with_reducible have kb0 := bf_on kb0 (gr_refl _ _) g3) | (with_reducible have kb0 := bf_on kb0 (gr_alloc (gr_refl _ _) _) g3) | (with_reducible have kb0 := bf_on kb0 (gr_alloc (gr_alloc (gr_refl _ _) _) _) g3))); (try (first | (with_reducible have kb1 := bf_on kb1 (gr_refl _ _) g3) | (with_reducible have kb1 := bf_on kb1 (gr_alloc (gr_refl _ _) _) g3) | (with_reducible have kb1 := bf_on kb1 (gr_alloc (gr_alloc (gr_refl _ _) _) _) g3))); (try ((with_reducible have kc0 := bf_new (gr_refl _ _) g3) ; (try simp only [World.size_alloc] at kc0))); (try ((with_reducible have kc1 := bf_new (gr_alloc (gr_refl _ _) _) g3) ; (try simp only [World.size_alloc] at kc1))); (try (obtain ⟨ka0a, ka0b, ka0c, ka0d, ka0e, ka0f, ka0g⟩ := ka0)); (try (obtain ⟨ka1a, ka1b, ka1c, ka1d, ka1e, ka1f, ka1g⟩ := ka1)); (try (obtain ⟨kb0a, kb0b, kb0c, kb0d, kb0e, kb0f, kb0g⟩ := kb0)); (try (obtain ⟨kb1a, kb1b, kb1c, kb1d, kb1e, kb1f, kb1g⟩ := kb1)); (try (obtain ⟨kc0a, kc0b, kc0c, kc0d, kc0e, kc0f, kc0g⟩ := kc0)); (try (obtain ⟨kc1a, kc1b, kc1c, kc1d, kc1e, kc1f, kc1g⟩ := kc1))))
      all_goals (
        go_wp2_with fail
        go_meet
        refine ⟨_, _, rfl, rfl, rfl, ?_, ?_, ?_, ?_, ?_⟩
        · first | (simp [go_sem, *]; done) | trace_state
        · first | (simp [go_sem, *]; done) | trace_state
        · first | (simp [go_sem, *]; done) | trace_state
        · first | (simp [go_sem, *]; done) | trace_state
        · repeat (first | (with_reducible exact gr_refl _ _) | (with_reducible assumption) | (with_reducible refine gr_drew ?_) | (with_reducible refine gr_alloc ?_ _) | ((with_reducible refine gr_set ?_ (.inr ?_) _); rotate_left; (focus (first | omega | (simp; done) | (simp; omega)))) | (with_reducible refine gr_then ?_ g3) | (with_reducible refine gr_then ?_ g2) | (with_reducible refine gr_then ?_ g1)))
    case rest =>
      obtain ⟨P', Q', rfl, rfl, rfl, r0, r1, t0, t1, GD⟩ := hcut
      obtain ⟨p0, p1, q0, q1⟩ := HP.out
      have p0' := cell_on GD p0
      have p1' := cell_on GD p1
      have q0' := cell_on GD q0
      have q1' := cell_on GD q1
      have HGD := hid (HG1.out _ GD).2
      have e1 : Hid (eqCB r A r A = true) := by simp [eqCB, Hid]
      have e2 : Hid (eqCB s B s B = true) := by simp [eqCB, Hid]
      clear p0 p1 q0 q1 GD HP HG1
      go_wp2_with fail
      refine (eqCistern_any r A r A _).mono ?_
      rw [e1.out]
      rintro e w1 ⟨rfl, g1⟩
      have HG2 := hid (gr_then HGD.out g1)
      have t0' := cell_on g1 t0
      have t1' := cell_on g1 t1
      have q0'' := cell_on g1 q0'
      have q1'' := cell_on g1 q1'
      clear p0' p1' q0' q1' r0 r1 t0 t1 g1
      go_wp2_with fail
      refine (eqCistern_any s B s B _).mono ?_
      rw [e2.out]
      rintro e w2 ⟨rfl, g2⟩
      have HG3 := hid (gr_then HG2.out g2)
      clear g2
      go_wp2
      go_ret
      exact ⟨rfl, HG3.out⟩
end Go.Proofs.Ytbmgmolnknnaiaa
