/- Water poured into a chain in order: plain laws. -/
import Derived.Test.YtbmgmolnknnaiaaPin
namespace Go.Proofs.Ytbmgmolnknnaiaa
open Go.RowKit

theorem wayAt_stay {xs : List Int} {k t : Nat} (h : 0 ≤ wayAt xs k t) : ∀ j, j ≤ t → 0 ≤ wayAt xs k j := by
  intro j hj
  by_cases e : j = t
  · subst e; exact h
  · by_cases hn : 0 ≤ wayAt xs k j
    · exact hn
    · rw [wayAt_out (t := j) (by omega) t (by omega)] at h; omega
theorem way_in {xs : List Int} {k : Nat} : ∀ t i, i < (wayTo xs k t).length → 0 ≤ wayAt xs k i
  | 0, i, h => by simp [wayTo] at h
  | t + 1, i, h => by
    unfold wayTo at h
    have hl := wayTo_length xs k t
    split at h
    · rename_i h0
      rw [List.length_append, List.length_singleton] at h
      exact wayAt_stay h0 i (by omega)
    · exact way_in t i h
/-- The way from k in a chain in order. -/
theorem way_all {ps : List (Int × Int)} {xs : List Int} {k : Nat} (hc : chainB ps xs = true) (hk : k < ps.length) :
    ∃ L, wayV ps xs k = wayTo xs k xs.length ∧ (wayV ps xs k).length = L ∧ 1 ≤ L ∧ L ≤ xs.length ∧ (∀ i, i < L → gi (wayV ps xs k) i = wayAt xs k i ∧ 0 ≤ wayAt xs k i ∧ wayAt xs k i < xs.length) ∧ wayAt xs k L = -1 := by
  obtain ⟨hn, hl, ha, _, _⟩ := chainB_parts hc
  have e : wayV ps xs k = wayTo xs k xs.length := by
    have : inB (k : Int) 0 ((ps.length : Int) - 1) = true := inB_mk (by omega)
    simp [wayV, hc, this]
  have hr := way_range hc (k := k) (by omega)
  refine ⟨_, e, rfl, ?_, ?_, ?_, ?_⟩
  · rw [e]; exact wayTo_pos _ _ _ (by omega)
  · rw [e]; exact wayTo_length _ _ _
  · intro i hi
    rw [e] at hi ⊢
    have h0 := way_in _ _ hi
    have h1 := wayTo_length xs k xs.length
    exact ⟨gi_way h0 (by omega), h0, hr i⟩
  · rw [e]
    generalize hL : (wayTo xs k xs.length).length = L
    have h1 := wayTo_length xs k xs.length
    have hno : ¬ 0 ≤ wayAt xs k L := by
      intro h0
      by_cases e2 : L = xs.length
      · have h7 := hr L
        rw [e2] at h0 h7
        exact way_ends hc k ⟨h0, h7⟩
      · obtain ⟨l, h2⟩ := way_pre xs k (t := L + 1) xs.length (by omega)
        have h3 := way_len (xs := xs) (k := k) (L + 1) (.inr (by simpa using h0))
        rw [h2, List.length_append, h3] at hL
        omega
    cases L with
    | zero => exact absurd (show (0 : Int) ≤ wayAt xs k 0 by show (0 : Int) ≤ (k : Int); omega) hno
    | succ L =>
      have e3 : wayAt xs k (L + 1) = nx xs (wayAt xs k L) := rfl
      rw [e3] at hno ⊢
      unfold nx at hno ⊢
      split at hno
      · rename_i h4
        rw [if_pos h4]
        have := allB_get ha (i := (wayAt xs k L).toNat) (by omega)
        omega
      · rename_i h4
        rw [if_neg h4]
/-- The chain's step: from one place of the way to the next. -/
theorem way_next {xs : List Int} {k i : Nat} (h0 : 0 ≤ wayAt xs k i) (h1 : wayAt xs k i < xs.length) : gi xs (wayAt xs k i).toNat = wayAt xs k (i + 1) := by
  show _ = nx xs (wayAt xs k i)
  rw [nx, if_pos ⟨h0, h1⟩]
/-- No place twice. -/
theorem way_once {ps : List (Int × Int)} {xs : List Int} {k : Nat} (hc : chainB ps xs = true) {i j : Nat} (hij : i < j) (hj : j < xs.length) (hi : 0 ≤ wayAt xs k i ∧ wayAt xs k i < xs.length) : wayAt xs k i ≠ wayAt xs k j := by
  intro he
  obtain ⟨hn, hl, _, _, h0⟩ := chainB_parts hc
  obtain ⟨a, ha⟩ := Int.eq_ofNat_of_zero_le hi.1
  have h5 := wayAt_from ha (j - i)
  rw [show i + (j - i) = j by omega, ← he, ha] at h5
  have h6 : backTo xs a xs.length = true := backTo_true (t := j - i) (by omega) h5.symm _ (by omega)
  have h7 := circTo_has h6 xs.length (by omega)
  rw [show circL xs = circTo xs xs.length from if_pos (by omega)] at h0
  exact h7 h0
/-! ### Pouring down a way that names no place twice -/
theorem levTo_set {ps : List (Int × Int)} {q : Nat} (v : Int × Int) (hq : q < ps.length) : ∀ n, levTo (ps.set q v) n = levTo ps n + (if q < n then v.2 - (gp ps q).2 else 0)
  | 0 => by simp [levTo]
  | n + 1 => by
    rw [levTo, levTo, levTo_set v hq n, gp_set]
    by_cases e : n = q
    · subst e
      rw [if_neg (show ¬ n < n by omega), if_pos ⟨rfl, hq⟩, if_pos (show n < n + 1 by omega)]; omega
    · have e' : ¬ (n = q ∧ q < ps.length) := fun h => e h.1
      by_cases h : q < n
      · rw [if_pos h, if_neg e', if_pos (show q < n + 1 by omega)]; omega
      · rw [if_neg h, if_neg e', if_neg (show ¬ q < n + 1 by omega)]; omega
structure PinAt (ps : List (Int × Int)) (ys : List Int) (x : Int) (t : Nat) : Prop where
  old : ∀ i, (∀ j, j < t → (gi ys j).toNat ≠ i) → gp (pinTo ps ys x t).1 i = gp ps i
  new : ∀ j, j < t → gp (pinTo ps ys x t).1 (gi ys j).toNat = ((gp ps (gi ys j).toNat).1, pourL (gp ps (gi ys j).toNat).1 (gp ps (gi ys j).toNat).2 (pinTo ps ys x j).2)
  wat : ∀ j, j < t → (pinTo ps ys x (j + 1)).2 = pourO (gp ps (gi ys j).toNat).1 (gp ps (gi ys j).toNat).2 (pinTo ps ys x j).2
  left : (pinTo ps ys x t).2 = max 0 (x - roomTo ps ys t)
  sum : levTo (pinTo ps ys x t).1 ps.length + (pinTo ps ys x t).2 = levTo ps ps.length + x
theorem pinAt {ps : List (Int × Int)} {ys : List Int} {x : Int} (hc : cistAll ps = true) (h0 : 0 ≤ x) (h1 : x ≤ 1000000) (hy : ∀ i, i < ys.length → 0 ≤ gi ys i ∧ gi ys i < ps.length)
    (hd : ∀ i j, i < j → j < ys.length → gi ys i ≠ gi ys j) : ∀ t, t ≤ ys.length → PinAt ps ys x t
  | 0, _ => ⟨fun _ _ => rfl, fun j h => absurd h (by omega), fun j h => absurd h (by omega), by simp [pinTo, roomTo]; omega, rfl⟩
  | t + 1, ht => by
    obtain ⟨old, new, wat, left, sum⟩ := pinAt hc h0 h1 hy hd t (by omega)
    have hq := hy t (by omega)
    have hne : ∀ j, j < t → (gi ys j).toNat ≠ (gi ys t).toNat := fun j hj e => by
      have h2 := hy j (by omega)
      exact hd j t hj (by omega) (by omega)
    obtain ⟨k1, k2, k3⟩ := pinTo_ok hc h0 h1 hy t (by omega)
    have hl := pinTo_length ps ys x t
    have hg : gp (pinTo ps ys x t).1 (gi ys t).toNat = gp ps (gi ys t).toNat := old _ hne
    have hcq := cistAll_get hc (i := (gi ys t).toNat) (by omega)
    have e1 : (pinTo ps ys x (t + 1)).1 = (pinTo ps ys x t).1.set (gi ys t).toNat ((gp ps (gi ys t).toNat).1, pourL (gp ps (gi ys t).toNat).1 (gp ps (gi ys t).toNat).2 (pinTo ps ys x t).2) := by
      show pinS _ _ _ = _
      rw [pinS, hg]
    have e2 : (pinTo ps ys x (t + 1)).2 = pourO (gp ps (gi ys t).toNat).1 (gp ps (gi ys t).toNat).2 (pinTo ps ys x t).2 := by
      show pinO _ _ _ = _
      rw [pinO, hg]
    obtain ⟨-, p2, p3, p4, -, -⟩ := pour_ok hcq k2 (by omega)
    refine ⟨fun i hi => ?_, fun j hj => ?_, fun j hj => ?_, ?_, ?_⟩
    · rw [e1, gp_other (fun e => hi t (by omega) e.symm)]
      exact old i fun j hj => hi j (by omega)
    · by_cases e : j = t
      · subst e; rw [e1, gp_same (by omega)]
      · rw [e1, gp_other (hne j (by omega))]; exact new j (by omega)
    · by_cases e : j = t
      · subst e; exact e2
      · exact wat j (by omega)
    · rw [e2, left, roomTo]
      have hp := cistB_true hcq
      have hs : spaceV (gp ps (gi ys t).toNat).1 (gp ps (gi ys t).toNat).2 = (gp ps (gi ys t).toNat).1 - (gp ps (gi ys t).toNat).2 := if_pos hcq
      rw [left] at k2 k3
      have eo : pourOk (gp ps (gi ys t).toNat).1 (gp ps (gi ys t).toNat).2 (max 0 (x - roomTo ps ys t)) = true := by rw [pourOk, hcq, inB_mk (by omega)]; rfl
      rw [hs, pourO, if_pos eo]
      split <;> omega
    · have hz := levTo_set (ps := (pinTo ps ys x t).1) (q := (gi ys t).toNat) ((gp ps (gi ys t).toNat).1, pourL (gp ps (gi ys t).toNat).1 (gp ps (gi ys t).toNat).2 (pinTo ps ys x t).2) (by omega) ps.length
      rw [if_pos (by omega), hg] at hz
      rw [e1, e2, hz]
      simp only at *
      omega
/-- What the chain's law asks of a chain in order, a place and some water. -/
structure ChLaw (ps : List (Int × Int)) (xs : List Int) (k : Nat) (x : Int) : Prop where
  len1 : 1 ≤ (wayV ps xs k).length
  len2 : (wayV ps xs k).length ≤ ps.length
  first : gi (wayV ps xs k) 0 = k
  inn : ∀ i, i < (wayV ps xs k).length → 0 ≤ gi (wayV ps xs k) i ∧ gi (wayV ps xs k) i < ps.length
  next : ∀ i, i + 1 < (wayV ps xs k).length → gi xs (gi (wayV ps xs k) i).toNat = gi (wayV ps xs k) (i + 1)
  last : ∀ i, i + 1 = (wayV ps xs k).length → gi xs (gi (wayV ps xs k) i).toNat = -1
  okX : chainB (pinV ps xs k x).1 xs = true
  sum : totV (pinV ps xs k x).1 xs + (pinV ps xs k x).2 = totV ps xs + x
  left : (pinV ps xs k x).2 = max 0 (x - roomV ps xs k)
  pos : 0 ≤ (pinV ps xs k x).2 ∧ 0 ≤ totV ps xs ∧ totV ps xs ≤ 10000000 ∧ 0 ≤ totV (pinV ps xs k x).1 xs ∧ totV (pinV ps xs k x).1 xs ≤ 10000000 ∧ (pinV ps xs k x).2 ≤ x
  room : -10 ≤ roomV ps xs k ∧ roomV ps xs k ≤ 10000000
  up : ∀ i, i < ps.length → (gp ps i).2 ≤ (gp (pinV ps xs k x).1 i).2
  same : ∀ i : Nat, i < ps.length → (∀ j, j < (wayV ps xs k).length → gi (wayV ps xs k) j ≠ i) → (gp (pinV ps xs k x).1 i).2 = (gp ps i).2
  full : ∀ i, i + 1 < (wayV ps xs k).length → (gp ps (gi (wayV ps xs k) (i + 1)).toNat).2 < (gp (pinV ps xs k x).1 (gi (wayV ps xs k) (i + 1)).toNat).2 → (gp (pinV ps xs k x).1 (gi (wayV ps xs k) i).toNat).2 = (gp (pinV ps xs k x).1 (gi (wayV ps xs k) i).toNat).1
theorem chLaw {ps : List (Int × Int)} {xs : List Int} {k : Nat} {x : Int} (hc : chainB ps xs = true) (hk : k < ps.length) (h0 : 0 ≤ x) (h1 : x ≤ 1000000) : ChLaw ps xs k x := by
  obtain ⟨hn, hl, ha, hci, h00⟩ := chainB_parts hc
  obtain ⟨L, eW, eL, l1, l2, hway, hlast⟩ := way_all hc hk
  have hr := way_range hc (k := k) (by omega)
  have eP : pinV ps xs k x = pinTo ps (wayV ps xs k) x (wayV ps xs k).length := by
    have : pinOk ps xs k x = true := by rw [pinOk, hc, inB_mk (by omega), inB_mk (by omega)]; rfl
    rw [pinV, if_pos this]
  have eR : roomV ps xs k = roomTo ps (wayV ps xs k) (wayV ps xs k).length := by rw [roomV, if_neg (by omega)]
  have hin : ∀ i, i < (wayV ps xs k).length → 0 ≤ gi (wayV ps xs k) i ∧ gi (wayV ps xs k) i < ps.length := fun i hi => by
    have := hway i (by omega); omega
  have hd : ∀ i j, i < j → j < (wayV ps xs k).length → gi (wayV ps xs k) i ≠ gi (wayV ps xs k) j := fun i j hij hj => by
    have a := hway i (by omega)
    have b := hway j (by omega)
    rw [a.1, b.1]
    exact way_once hc hij (by omega) a.2
  have hP := pinAt hci h0 h1 hin hd
  have hA := hP _ (Nat.le_refl _)
  have hO := pinTo_ok hci h0 h1 hin
  have hOL := hO _ (Nat.le_refl _)
  have okX : chainB (pinV ps xs k x).1 xs = true := by
    have hz := pinTo_length ps (wayV ps xs k) x (wayV ps xs k).length
    rw [eP, chainB, hz, hOL.1]
    rw [chainB, hci] at hc
    exact hc
  have tX : totV (pinV ps xs k x).1 xs = levTo (pinTo ps (wayV ps xs k) x (wayV ps xs k).length).1 ps.length := by
    rw [totV, if_pos okX, eP, pinTo_length]
  have tC : totV ps xs = levTo ps ps.length := by rw [totV, if_pos hc]
  have b1 := levTo_bd hci ps.length (Nat.le_refl _)
  have b2 := levTo_bd hOL.1 ps.length (by rw [pinTo_length]; exact Nat.le_refl _)
  have rb := roomTo_bd ps (wayV ps xs k) (wayV ps xs k).length
  have wa := fun j (hj : j < (wayV ps xs k).length) => pour_ok (cistAll_get hci (i := (gi (wayV ps xs k) j).toNat) (by have := hin j hj; omega)) (hO j (by omega)).2.1 (Int.le_trans (hO j (by omega)).2.2 h1)
  refine ⟨by omega, by omega, (hway 0 (by omega)).1, hin, fun i hi => ?_, fun i hi => ?_, okX, ?_, ?_, ?_, ?_, fun i hi => ?_, fun i hi hno => ?_, fun i hi hup => ?_⟩
  · have a := hway i (by omega)
    rw [a.1, (hway (i + 1) (by omega)).1]
    exact way_next a.2.1 a.2.2
  · have a := hway i (by omega)
    rw [a.1, way_next a.2.1 a.2.2, hi, eL, hlast]
  · rw [tX, tC, eP]; exact hA.sum
  · rw [eP, eR]; exact hA.left
  · rw [tX, tC, eP]
    have := hOL.2
    omega
  · rw [eR]; omega
  · rw [eP]
    by_cases hj : ∃ j, j < (wayV ps xs k).length ∧ (gi (wayV ps xs k) j).toNat = i
    · obtain ⟨j, hj, rfl⟩ := hj
      rw [hA.new j hj]
      exact (wa j hj).2.2.2.2.1
    · rw [hA.old i fun j hj' e => hj ⟨j, hj', e⟩]
      exact Int.le_refl _
  · rw [eP, hA.old i fun j hj e => hno j hj (by have := hin j hj; omega)]
  · rw [eP] at hup ⊢
    rw [hA.new (i + 1) hi] at hup
    rw [hA.new i (by omega)]
    have a := wa (i + 1) hi
    have b := wa i (by omega)
    have c := hA.wat i (by omega)
    simp only at hup ⊢
    refine b.2.2.2.2.2 ?_
    rw [← c]
    have := (hO (i + 1) (by omega)).2.1
    omega
end Go.Proofs.Ytbmgmolnknnaiaa
