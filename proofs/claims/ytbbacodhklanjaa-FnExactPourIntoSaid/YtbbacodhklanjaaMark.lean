/- Chains: marked, and asked for their marks. -/
import Derived.Test.YtbbacodhklanjaaChain
namespace Go.Proofs.Ytbbacodhklanjaa
open Go.RowKit

/-- Pairs of marks: k, k + 1; k + 2, k + 3; .. -/
def pmarks (k : Int) (n : Nat) : List (Int × Int) := (List.range n).map fun i => (k + 2 * (i : Nat), k + 2 * (i : Nat) + 1)
@[simp] theorem pmarks_length (k : Int) (n : Nat) : (pmarks k n).length = n := by simp [pmarks]
theorem gp_pmarks {k : Int} {n i : Nat} (h : i < n) : gp (pmarks k n) i = (k + 2 * (i : Nat), k + 2 * (i : Nat) + 1) := by simp [gp, pmarks, List.getD, h]
theorem pmarks_i64 {k : Int} {n : Nat} (h0 : 0 ≤ k) (h1 : k ≤ 100000000) (h2 : n ≤ 1048576) : ∀ x ∈ pmarks k n, I64 x.1 ∧ I64 x.2 := by
  intro x hx
  simp only [pmarks, List.mem_map, List.mem_range] at hx
  obtain ⟨i, hi, rfl⟩ := hx
  unfold I64; constructor <;> constructor <;> simp <;> omega
def pmarkTo (ps : List (Int × Int)) (k : Int) (j : Nat) : List (Int × Int) := (List.range ps.length).map fun i => if i < j then (k + 2 * (i : Nat), k + 2 * (i : Nat) + 1) else gp ps i
@[simp] theorem pmarkTo_length (ps : List (Int × Int)) (k : Int) (j : Nat) : (pmarkTo ps k j).length = ps.length := by simp [pmarkTo]
theorem pmarkTo_zero (ps : List (Int × Int)) (k : Int) : pmarkTo ps k 0 = ps := by
  apply List.ext_getElem
  · simp
  · intro i h1 h2
    simp [pmarkTo, gp_lt h2]
theorem pmarkTo_all (ps : List (Int × Int)) (k : Int) : pmarkTo ps k ps.length = pmarks k ps.length := by
  apply List.ext_getElem
  · simp
  · intro i h1 h2
    simp at h1
    simp [pmarkTo, pmarks, h1]
theorem pmarkTo_set (ps : List (Int × Int)) (k : Int) (j : Nat) : (pmarkTo ps k j).set j (k + 2 * (j : Nat), k + 2 * (j : Nat) + 1) = pmarkTo ps k (j + 1) := by
  apply List.ext_getElem
  · simp
  · intro i h1 h2
    simp at h1
    rw [List.getElem_set]
    by_cases e : j = i
    · subst e; simp [pmarkTo]
    · simp only [e, if_false, pmarkTo, List.getElem_map, List.getElem_range]
      by_cases hij : i < j
      · rw [if_pos hij, if_pos (by omega)]
      · rw [if_neg hij, if_neg (by omega)]
theorem gr_row {W a b : World} {r : Option Nat} (h : Gr W a none) (k : Gr a b r) (hr : ∀ j, r = some j → W.heap.size ≤ j) : Gr W b none := gr_trans h k (fun j e => .inr (hr j e))
theorem markCisternS_any {B : Nat} {v : Value} {ps : List (Int × Int)} (k0 : Int) (w : World) (h : OwnP 25 w B v ps) (hs : ps.length ≤ 1048576) (h0 : 0 ≤ k0) (h1 : k0 ≤ 100000000) :
    Calls Try.prog 71 #[v, .int .i64 k0] w fun e w' => e = .returned (.int .i64 (k0 + 2 * ps.length)) ∧ OwnP 25 w' B v (pmarks k0 ps.length) ∧ Gr w w' v.ownBlock := by
  obtain ⟨hbd, hown0⟩ := h
  have hbm := pmarks_i64 (n := ps.length) h0 h1 hs
  by_cases hx0 : ps.length = 0
  · have hx : ps = [] := by simpa using hx0
    subst hx
    have hv : ∃ a cap, v = .slice a 0 cap := by
      rcases Go.Joins.ownsRow_forms hown0 with ⟨rfl, _⟩ | ⟨g, cap, rfl⟩ <;> exact ⟨_, _, rfl⟩
    obtain ⟨a, cap, rfl⟩ := hv
    go_enter Try.func71, Try.ntmps71
    go_wp2_with fail
    refine Go.wp_loop_rounds 1 ?_
    rw [Go.rounds_succ]
    go_wp2
    go_ret
    exact ⟨ret_int (by simp), ⟨by simp [pmarks], hown0⟩, gr_refl _ _⟩
  · have hv : ∃ g cap, v = .slice (some ⟨g, 0, none⟩) ps.length cap := by
      rcases Go.Joins.ownsRow_forms hown0 with ⟨rfl, hn⟩ | ⟨g, cap, rfl⟩
      · exact absurd hn hx0
      · exact ⟨_, _, rfl⟩
    obtain ⟨g, cap, rfl⟩ := hv
    have hgB := (hown0.lt g rfl).2
    rw [← pmarkTo_zero ps k0] at hown0
    have HO : Hid (w.ownsRow B 25 2 (.slice (some ⟨g, 0, none⟩) ps.length cap) ps.length (pcells (pmarkTo ps k0 0))) := by rw [pmarkTo_length] at hown0; exact hid hown0
    clear hown0
    go_enter Try.func71, Try.ntmps71
    go_wp2
    go_loopw [1, 5] (fun m i wr => ∃ k : Nat, k ≤ ps.length ∧ i = .int .i64 k ∧ m = .int .i64 (k0 + 2 * k) ∧ wr.ownsRow B 25 2 (.slice (some ⟨g, 0, none⟩) ps.length cap) ps.length (pcells (pmarkTo ps k0 k)) ∧ Gr w wr (some g)) (fun _ i _ => ps.length - (intOf i).toNat)
    case atStart => exact ⟨0, Nat.zero_le _, rfl, by go_num, HO.out, gr_refl _ _⟩
    case round =>
      obtain ⟨k, hk, rfl, rfl, hown, hg⟩ := hrel
      clear HO
      by_cases hlt : k < ps.length
      · obtain ⟨e0, e1⟩ := pcells_get (pmarkTo ps k0 k) k (by simpa using hlt)
        have hd0 := (hown.cellAt (k * 2) (by omega)).trans e0
        have hd1 := (hown.cellAt (k * 2 + 1) (by omega)).trans e1
        have hf0 := hown.frozenAt (k * 2)
        have hf1 := hown.frozenAt (k * 2 + 1)
        have hst := (hown.stored (k * 2) (.int .i64 (k0 + 2 * k))).1
        have hst2 := (hst.stored (k * 2 + 1) (.int .i64 (k0 + 2 * k + 1))).1
        rw [pcells_set, pmarkTo_set] at hst2
        have HS := hid hst2
        have hgs := gr_set (gr_set hg (p := ⟨g, k * 2, none⟩) (.inl rfl) (.int .i64 (k0 + 2 * k))) (p := ⟨g, k * 2 + 1, none⟩) (.inl rfl) (.int .i64 (k0 + 2 * k + 1))
        have hd1' : (wr.setCell ⟨g, k * 2, none⟩ (.int .i64 (k0 + 2 * k))).cell? ⟨g, k * 2 + 1, none⟩ = some (.int .i64 (gp (pmarkTo ps k0 k) k).2) := by
          rw [World.cell?_setCell_other]
          · exact hd1
          · intro e; simp at e
        have hK1 : 0 ≤ k0 + 2 * (k : Int) := by omega
        have hK2 : k0 + 2 * (k : Int) ≤ 1000000000 := by omega
        have E : Hid (k0 + 2 * ((k + 1 : Nat) : Int) = k0 + 2 * k + 1 + 1) := by show _ = _; omega
        generalize k0 + 2 * (k : Int) = K at *
        clear hst hst2 e0 e1 hown hg
        go_wp2
        go_roundw
        case rel => exact ⟨k + 1, by omega, by go_num, by rw [E.out], HS.out, hgs⟩
        case measure => simp [intOf]; omega
      · have hkl : k = ps.length := by omega
        subst hkl
        rw [pmarkTo_all] at hown
        go_wp2
        go_ret
        exact ⟨rfl, ⟨hbm, by rw [pmarks_length]; exact hown⟩, hg⟩
theorem heldCisternS_any {v : Value} (n : Nat) (k0 : Int) (w : World) (h : Pairs w v (pmarks k0 n)) (hs : n ≤ 1048576) (h0 : 0 ≤ k0) (h1 : k0 ≤ 100000000) :
    Calls Try.prog 72 #[v, .int .i64 k0] w fun e w' => e = .returned (.int .i64 (k0 + 2 * n)) ∧ w = w' := by
  obtain ⟨_, a, cap, rfl, hcap, hmax, hat⟩ := h
  simp only [pmarks_length] at hcap hat ⊢
  go_enter Try.func72, Try.ntmps72
  go_wp2
  go_loop [1, 5] (fun m i => ∃ k : Nat, k ≤ n ∧ i = .int .i64 k ∧ m = .int .i64 (k0 + 2 * k)) (fun _ i => n - (intOf i).toNat)
  case atStart => exact ⟨0, Nat.zero_le _, rfl, by go_num⟩
  case round =>
    obtain ⟨k, hk, rfl, rfl⟩ := hrel
    by_cases hlt : k < n
    · obtain ⟨b, off, rfl, hc⟩ : ∃ b off, a = some ⟨b, off, none⟩ ∧ PairsAt w b off (pmarks k0 n) := by
        rcases hat with h0 | h0
        · have := congrArg List.length h0; simp at this; omega
        · exact h0
      obtain ⟨c1, c2⟩ := hc k (by simpa using hlt)
      rw [gp_pmarks hlt] at c1 c2
      have hK1 : 0 ≤ k0 + 2 * (k : Int) := by omega
      have hK2 : k0 + 2 * (k : Int) ≤ 1000000000 := by omega
      have E : Hid (k0 + 2 * ((k + 1 : Nat) : Int) = k0 + 2 * k + 1 + 1) := by show _ = _; omega
      simp only at c1 c2
      generalize k0 + 2 * (k : Int) = K at *
      clear hc hat
      go_wp2
      go_round
      case rel => exact ⟨k + 1, by omega, by go_num, by rw [E.out]⟩
      case measure => simp [intOf]; omega
    · have hkl : k = n := by omega
      subst hkl
      clear hat
      go_wp2
      go_ret
      exact ⟨rfl, rfl⟩
theorem markChain_any {B : Nat} {u v : Value} {ps : List (Int × Int)} {xs : List Int} (w : World) (hu : OwnP 25 w B u ps) (hv : OwnI 3 w B v xs) (hp : ps.length ≤ 1048576) (hx : xs.length ≤ 1048576) (hn : u.ownBlock = none ∨ u.ownBlock ≠ v.ownBlock) (k0 : Int) (h0 : 0 ≤ k0) (h1 : k0 ≤ 1000) :
    Calls Try.prog 47 #[.agg #[u, v], .int .i64 k0] w fun e w' => e = .returned (.int .i64 (k0 + 2 * ps.length + xs.length)) ∧ OwnP 25 w' B u (pmarks k0 ps.length) ∧ OwnI 3 w' B v (marks (k0 + 2 * ps.length) xs.length) ∧ ∃ wm, Gr w wm u.ownBlock ∧ Gr wm w' v.ownBlock := by
  have HU := hid hu
  have HV := hid hv
  obtain ⟨a, cap, rfl⟩ : ∃ a c, u = .slice a ps.length c := by obtain ⟨_, a, c, e, _⟩ := hu.pairs; exact ⟨a, c, e⟩
  obtain ⟨a', cap', rfl⟩ : ∃ a c, v = .slice a xs.length c := by obtain ⟨_, a, c, e, _⟩ := hv.ints; exact ⟨a, c, e⟩
  have HN := hid hn
  clear hu hv hn
  have hub : ∀ k, (Value.slice a ps.length cap).ownBlock = some k → k < w.heap.size := fun k hk => (HU.out.lt k hk).2
  have hvb : ∀ k, (Value.slice a' xs.length cap').ownBlock = some k → k < w.heap.size := fun k hk => (HV.out.lt k hk).2
  have hne : (Value.slice a ps.length cap).ownBlock ≠ some w.heap.size := fun e => by have := hub _ e; omega
  have HNE := hid hne
  have HAP : Hid ((Value.slice a' xs.length cap').ownBlock = none ∨ (Value.slice a' xs.length cap').ownBlock ≠ (Value.slice a ps.length cap).ownBlock) := by
    rcases HN.out with h | h
    · cases hv : (Value.slice a' xs.length cap').ownBlock with
      | none => exact .inl rfl
      | some k => right; rw [h]; simp
    · exact .inr (Ne.symm h)
  clear hne hub hvb
  go_enter Try.func47, Try.ntmps47
  go_wp2_with fail
  refine (markCisternS_any _ _ (HU.out.on (gr_alloc (gr_refl _ _) _)) hp (by omega) (by omega)).mono ?_
  rintro e w1 ⟨rfl, o1, g1⟩
  have k1 := (gr_cellr g1 (b := w.heap.size) (o := 1) (by simp) HNE.out).trans (by simp [go_sem] : _ = some (Value.slice a' xs.length cap'))
  have v1 := (HV.out.on (gr_alloc (gr_refl _ _) _)).kept g1 HAP.out
  have O1 := hid (And.intro o1 (And.intro v1 g1))
  clear o1 v1 g1
  go_wp2_with fail
  refine (markIntS_any _ _ O1.out.2.1 hx (by omega) (by omega)).mono ?_
  rintro e w2 ⟨rfl, v2, g2⟩
  have O2 := hid (And.intro v2 g2)
  clear v2 g2
  go_wp2
  go_ret
  exact ⟨rfl, O1.out.1.kept O2.out.2 HN.out, O2.out.1, w1, gr_same (gr_mono (gr_alloc (gr_refl _ _) _)) O1.out.2.2, O2.out.2⟩
theorem heldChain_any {u v : Value} (n m : Nat) (w : World) (k0 : Int) (hu : Pairs w u (pmarks k0 n)) (hv : Ints w v (marks (k0 + 2 * n) m)) (hp : n ≤ 1048576) (hx : m ≤ 1048576) (h0 : 0 ≤ k0) (h1 : k0 ≤ 1000) :
    Calls Try.prog 48 #[.agg #[u, v], .int .i64 k0] w fun e w' => e = .returned (.int .i64 (k0 + 2 * n + m)) ∧ Gr w w' none := by
  have HU := hid hu
  have HV := hid hv
  obtain ⟨_, a, cap, rfl, _, _, hat⟩ := hu
  obtain ⟨_, a', cap', rfl, _, _, hat'⟩ := hv
  simp only [pmarks_length, marks_length] at HU HV ⊢
  clear hat hat'
  go_enter Try.func48, Try.ntmps48
  go_wp2_with fail
  refine (heldCisternS_any n _ _ (HU.out.on (gr_alloc (gr_refl _ _) _)) hp (by omega) (by omega)).mono ?_
  rintro e w' ⟨rfl, rfl⟩
  go_wp2_with fail
  refine (heldIntS_any m _ _ (HV.out.on (gr_alloc (gr_refl _ _) _)) hx (by omega) (by omega)).mono ?_
  rintro e w' ⟨rfl, rfl⟩
  go_wp2
  go_ret
  exact ⟨rfl, gr_alloc (gr_refl _ _) _⟩
end Go.Proofs.Ytbbacodhklanjaa
