/- A drawn chain in its box; what the law asks. -/
import Derived.Test.YtbmgmolnknnaiaaChnH
namespace Go.Proofs.Ytbmgmolnknnaiaa
open Go.RowKit

/-- The box P holds a chain: its two slices, their elements. -/
structure ChW (W : World) (P pb po pc xb xo xc : Nat) (ps : List (Int × Int)) (xs : List Int) : Prop where
  c0 : W.cell? ⟨P, 0, none⟩ = some (.slice (some ⟨pb, po, none⟩) ps.length pc)
  c1 : W.cell? ⟨P, 1, none⟩ = some (.slice (some ⟨xb, xo, none⟩) xs.length xc)
  pa : PairsAt W pb po ps
  xa : IntsAt W xb xo xs
  pi : Pairs W (.slice (some ⟨pb, po, none⟩) ps.length pc) ps
  xi : Ints W (.slice (some ⟨xb, xo, none⟩) xs.length xc) xs
theorem ChW.on {W W' : World} {P pb po pc xb xo xc : Nat} {ps : List (Int × Int)} {xs : List Int} (h : ChW W P pb po pc xb xo xc ps xs) (hg : Gr W W' none) : ChW W' P pb po pc xb xo xc ps xs :=
  ⟨cell_on hg h.c0, cell_on hg h.c1, h.pa.kept hg (by simp), h.xa.kept hg (by simp), h.pi.on hg, h.xi.on hg⟩
theorem chW_new {W : World} {u v : Value} {ps : List (Int × Int)} {xs : List Int} (T : TypeId) (hu : Pairs W u ps) (hv : Ints W v xs) (h1 : 1 ≤ ps.length) (h2 : 1 ≤ xs.length) : ∃ pb po pc xb xo xc, u = .slice (some ⟨pb, po, none⟩) ps.length pc ∧ v = .slice (some ⟨xb, xo, none⟩) xs.length xc ∧ ChW (W.alloc (.cells #[u, v] T)) W.heap.size pb po pc xb xo xc ps xs := by
  have HU := hu.on (gr_alloc (gr_refl W none) (.cells #[u, v] T))
  have HV := hv.on (gr_alloc (gr_refl W none) (.cells #[u, v] T))
  obtain ⟨_, a, cap, rfl, _, _, hat⟩ := id HU
  obtain ⟨_, a', cap', rfl, _, _, hat'⟩ := id HV
  obtain ⟨b, off, rfl, hc⟩ : ∃ b off, a = some ⟨b, off, none⟩ ∧ PairsAt _ b off ps := by
    rcases hat with h0 | h0
    · subst h0; simp at h1
    · exact h0
  obtain ⟨b', off', rfl, hc'⟩ : ∃ b off, a' = some ⟨b, off, none⟩ ∧ IntsAt _ b off xs := by
    rcases hat' with h0 | h0
    · subst h0; simp at h2
    · exact h0
  exact ⟨_, _, _, _, _, _, rfl, rfl, by simp [go_sem], by simp [go_sem], hc, hc', HU, HV⟩
structure ChFacts (ps X : List (Int × Int)) (xs ys : List Int) (k : Nat) (x O N NX R : Int) : Prop where
  lenX : X.length = ps.length
  i64X : ∀ q ∈ X, I64 q.1 ∧ I64 q.2
  len1 : 1 ≤ ys.length
  len2 : ys.length ≤ ps.length
  first : gi ys 0 = k
  inn : ∀ i, i < ys.length → 0 ≤ gi ys i ∧ gi ys i < ps.length
  next : ∀ i, i + 1 < ys.length → gi xs (gi ys i).toNat = gi ys (i + 1)
  last : ∀ i, i + 1 = ys.length → gi xs (gi ys i).toNat = -1
  okX : chainB X xs = true
  sum : NX + O = N + x
  left : O = max 0 (x - R)
  pos : 0 ≤ O ∧ 0 ≤ N ∧ N ≤ 10000000 ∧ 0 ≤ NX ∧ NX ≤ 10000000 ∧ O ≤ x
  room : -10 ≤ R ∧ R ≤ 10000000
  up : ∀ i, i < ps.length → (gp ps i).2 ≤ (gp X i).2
  same : ∀ i : Nat, i < ps.length → (∀ j, j < ys.length → gi ys j ≠ i) → (gp X i).2 = (gp ps i).2
  full : ∀ i, i + 1 < ys.length → (gp ps (gi ys (i + 1)).toNat).2 < (gp X (gi ys (i + 1)).toNat).2 → (gp X (gi ys i).toNat).2 = (gp X (gi ys i).toNat).1
theorem chFacts {ps : List (Int × Int)} {xs : List Int} {k : Nat} {x : Int} (hc : chainB ps xs = true) (hk : k < ps.length) (h0 : 0 ≤ x) (h1 : x ≤ 1000000) :
    ∃ X O N NX R ys, pinV ps xs k x = (X, O) ∧ totV ps xs = N ∧ totV X xs = NX ∧ roomV ps xs k = R ∧ wayV ps xs k = ys ∧ ChFacts ps X xs ys k x O N NX R := by
  obtain ⟨a1, a2, a3, a4, a5, a6, a7, a8, a9, b1, b2, b3, b4, b5⟩ := chLaw hc hk h0 h1
  refine ⟨(pinV ps xs k x).1, (pinV ps xs k x).2, _, _, _, _, rfl, rfl, rfl, rfl, rfl, ?_, ?_, a1, a2, a3, a4, a5, a6, a7, a8, a9, b1, b2, b3, b4, b5⟩
  · have := (chainB_parts a7).2.1
    have := (chainB_parts hc).2.1
    omega
  · exact cist_i64 (chainB_parts a7).2.2.2.1
/-- The loops of a body, the outermost ones, in the order of the text. -/
def loopsOf : Code → List Code
  | .loop c => [c]
  | .seq a b => loopsOf a ++ loopsOf b
  | .block _ c => loopsOf c
  | .scope c => loopsOf c
  | .cond _ a b => loopsOf a ++ loopsOf b
  | _ => []
end Go.Proofs.Ytbmgmolnknnaiaa
