/- A drawn net: what the law asks of it. No program is in sight. -/
import Derived.Test.YtbkpphcmdjllnaaWithout
import Derived.Test.YtbkpphcmdjllnaaHasE
import Derived.Test.YtbkpphcmdjllnaaWidest
namespace Go.Proofs.Ytbkpphcmdjllnaa
open Go.RowKit

/-- What the law asks of a net, its widest way W from a to b and the set M of the places that a reaches. -/
structure PF (n a b : Nat) (ts T : List Tri) (W : Int) (M : Nat) : Prop where
  lenT : T.length = ts.length
  w0 : 0 ≤ W ∧ W ≤ 1000
  hb : M.testBit b = decide (0 < W)
  ha : M.testBit a = true
  turn : bestTo n T b a T.length = W
  okT : netB n T = true
  okL : ∀ k, k < ts.length → netB n (lessT ts k) = true
  less : ∀ k, k < ts.length → 0 ≤ bestTo n (lessT ts k) a b (lessT ts k).length ∧ bestTo n (lessT ts k) a b (lessT ts k).length ≤ W
  closed : ∀ k, k < ts.length → M.testBit (gt ts k).1.toNat = true → M.testBit (gt ts k).2.1.toNat = true
  sum1 : sumOut ts ts.length n = sumW ts ts.length
  sum2 : sumOut T T.length n = sumW ts ts.length
  out : W ≤ outTo ts a ts.length
theorem net_ok {n : Nat} {ts : List Tri} (h2 : 2 ≤ n ∧ n ≤ 8) (hl : ts.length ≤ 20) (h : ∀ t ∈ ts, pipeB (n : Int) t = true) : netB n ts = true := by
  rw [netB, inB_mk ⟨by omega, by omega⟩]
  simp only [Bool.true_and, Bool.and_eq_true, decide_eq_true_eq, List.all_eq_true]
  exact ⟨hl, h⟩
theorem net_mem {n : Nat} {ts : List Tri} (h : netB n ts = true) : ∀ t ∈ ts, pipeB (n : Int) t = true := by
  rw [netB] at h
  simp only [Bool.and_eq_true, List.all_eq_true] at h
  exact h.2
theorem pipe_turn {n : Int} {t : Tri} (h : pipeB n t = true) : pipeB n (turnT t) = true := by
  rw [pipeB] at h ⊢
  simp only [Bool.and_eq_true, turnT] at h ⊢
  obtain ⟨⟨⟨h1, h2⟩, h3⟩, h4⟩ := h
  refine ⟨⟨⟨h2, h1⟩, ?_⟩, h4⟩
  simp only [Bool.not_eq_true', decide_eq_false_iff_not] at h3 ⊢
  exact decide_eq_false fun e => h3 e.symm
theorem net_pos {n : Nat} {ts : List Tri} (h : netB n ts = true) : ∀ t ∈ ts, (0 ≤ t.1 ∧ t.1 < n) ∧ (0 ≤ t.2.1 ∧ t.2.1 < n) ∧ 1 ≤ t.2.2 ∧ t.2.2 ≤ 1000 := fun t ht => by
  obtain ⟨i, hi, rfl⟩ := List.mem_iff_getElem.1 ht
  obtain ⟨h1, h2, h3, h4⟩ := (netB_parts h).2.2 i hi
  rw [gt_lt hi] at h1 h2 h3 h4
  omega
theorem sumW_bd {n : Nat} {ts : List Tri} (h : netB n ts = true) : ∀ k, k ≤ ts.length → 0 ≤ sumW ts k ∧ sumW ts k ≤ 1000 * k
  | 0, _ => by simp [sumW]
  | k + 1, hk => by
    have h1 := sumW_bd h k (by omega)
    have h2 := net_pos h _ (gt_mem (ps := ts) (i := k) (by omega))
    rw [sumW]
    omega
theorem sumOut_bd {n : Nat} {ts : List Tri} (h : netB n ts = true) : ∀ m, 0 ≤ sumOut ts ts.length m ∧ sumOut ts ts.length m ≤ 20000 * m
  | 0 => by simp [sumOut]
  | m + 1 => by
    have h1 := sumOut_bd h m
    have h2 := outTo_bd h m ts.length (Nat.le_refl _)
    have h3 := (netB_parts h).2.1
    rw [sumOut]
    omega
theorem pFacts {n a b : Nat} {ts : List Tri} (h : netB n ts = true) (ha : a < n) (hbn : b < n) (hab : a ≠ b) : PF n a b ts (ts.map turnT) (bestTo n ts a b ts.length) (reachM ts 1 a n) := by
  have hp := net_pos h
  have h1 : ∀ t ∈ ts, 1 ≤ t.2.2 := fun t ht => (hp t ht).2.2.1
  have hN := inN_net h
  have hW := best_wide (b := b) hN ha
  have hn := netB_parts h
  have hT : netB n (ts.map turnT) = true := net_ok (by omega) (by rw [List.length_map]; omega) fun t ht => by
    obtain ⟨t', ht', rfl⟩ := List.mem_map.1 ht
    exact pipe_turn (net_mem h _ ht')
  have hL : ∀ k, k < ts.length → netB n (lessT ts k) = true := fun k hk => net_ok (by omega) (by rw [lessT_length hk]; omega) fun t ht => net_mem h _ (lessT_mem ht)
  refine ⟨List.length_map _, best_bd h _ (Nat.le_refl _), ?_, reachM_self n, ?_, hT, hL, fun k hk => ⟨(best_bd (hL k hk) _ (Nat.le_refl _)).1, wide_less hW (best_wide (inN_net (hL k hk)) ha) (fun t ht => lessT_mem ht) (best_bd h _ (Nat.le_refl _)).1⟩, ?_, sumOut_all hN (fun t ht => (hp t ht).1.1) _ (Nat.le_refl _), ?_, ?_⟩
  · have e1 := wide_has hW h1 (Ne.symm hab)
    have e2 := reach_iff (p := b) (w := 1) hN ha
    by_cases hw : 0 < bestTo n ts a b ts.length
    · rw [e2.2 (e1.1 hw)]; simp [hw]
    · have : ¬ (reachM ts 1 a n).testBit b = true := fun hx => hw (e1.2 (e2.1 hx))
      simp only [Bool.not_eq_true] at this
      rw [this]; simp [hw]
  · exact wide_turn hW (best_wide (inN_net hT) hbn) h1
  · intro k hk hf
    have hm := gt_mem hk
    have := (reach_iff (w := 1) hN ha).1 hf
    exact (reach_iff (w := 1) hN ha).2 (.step this hm rfl (h1 _ hm))
  · have e := sumOut_all (n := n) (inN_net hT) (fun t ht => (net_pos hT t ht).1.1) (ts.map turnT).length (Nat.le_refl _)
    rw [e, List.length_map, sumW_turn ts _ (Nat.le_refl _)]
  · obtain ⟨g0, g1⟩ := outTo_ge (p := (a : Int)) h1 ts.length (Nat.le_refl _)
    rcases hW.some with e | ⟨t, ht, e, hpp⟩
    · omega
    · rw [e] at hpp ⊢
      rcases path_first hpp with e' | ⟨t', ht', hf, hw⟩
      · exact absurd e' (Ne.symm hab)
      · obtain ⟨i, hi, rfl⟩ := List.mem_iff_getElem.1 ht'
        have := g1 i hi (by rw [gt_lt hi]; have := hp _ (List.getElem_mem hi); omega)
        rw [gt_lt hi] at this
        omega
end Go.Proofs.Ytbkpphcmdjllnaa
