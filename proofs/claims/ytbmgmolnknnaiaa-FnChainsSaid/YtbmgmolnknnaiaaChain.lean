/- Chains: counted, copied, compared. -/
import Derived.Test.YtbmgmolnknnaiaaCists
import Derived.Test.YtbmgmolnknnaiaaSlc
namespace Go.Proofs.Ytbmgmolnknnaiaa
open Go.RowKit

theorem OwnP.set {E : TypeId} {w : World} {B : Nat} {v : Value} {ps : List (Int × Int)} (h : OwnP E w B v ps) {p : Addr} (hp : p.block < B) (u : Value) : OwnP E (w.setCell p u) B v ps :=
  h.kept (r := some p.block) (gr_set (gr_refl _ _) (.inl rfl) _) (by
    cases hv : v.ownBlock with
    | none => exact .inl rfl
    | some k => right; intro e; cases e; have := (h.lt _ hv).1; omega)
theorem OwnI.set {E : TypeId} {w : World} {B : Nat} {v : Value} {xs : List Int} (h : OwnI E w B v xs) {p : Addr} (hp : p.block < B) (u : Value) : OwnI E (w.setCell p u) B v xs :=
  h.kept (r := some p.block) (gr_set (gr_refl _ _) (.inl rfl) _) (by
    cases hv : v.ownBlock with
    | none => exact .inl rfl
    | some k => right; intro e; cases e; have := (h.lt _ hv).1; omega)
theorem OwnP.mono' {E : TypeId} {w : World} {B B' : Nat} {v : Value} {ps : List (Int × Int)} (h : OwnP E w B v ps) (hB : B' ≤ B) : OwnP E w B' v ps := by
  refine ⟨h.1, h.2.1, ?_⟩
  rcases h.2.2 with h0 | ⟨g, cap, cur, e, hb, r⟩
  · exact .inl h0
  · exact .inr ⟨g, cap, cur, e, Nat.le_trans hB hb, r⟩
def RetCh (C I : TypeId) (w : World) (ps : List (Int × Int)) (xs : List Int) (e : Ending) (w' : World) : Prop :=
  ∃ u v, e = .returned (.agg #[u, v]) ∧ OwnP C w' w.heap.size u ps ∧ OwnI I w' w.heap.size v xs ∧ Gr w w' none
end Go.Proofs.Ytbmgmolnknnaiaa
