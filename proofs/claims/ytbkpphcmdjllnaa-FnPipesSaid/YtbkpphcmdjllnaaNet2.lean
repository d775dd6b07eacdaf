/- Nets: copied, counted, compared; whether a net is in order; what can leave a place. -/
import Derived.Test.YtbkpphcmdjllnaaNet1
import Derived.Test.YtbkpphcmdjllnaaBoxes
namespace Go.Proofs.Ytbkpphcmdjllnaa
open Go.RowKit

def RetNt (T : TypeId) (w : World) (n : Int) (ts : List Tri) (e : Ending) (w' : World) : Prop :=
  ∃ u, e = .returned (.agg #[.int .i64 n, u]) ∧ OwnT T w' w.heap.size u ts ∧ Gr w w' none
theorem toNet_any {u : Value} {ts : List Tri} (n : Int) (w : World) (hu : Trips w u ts) (h1 : ts.length ≤ 1048576) :
    Calls Try.prog 8 #[.agg #[.int .i64 n, u]] w (RetNt 45 w n ts) := by
  have HU := hid hu
  obtain ⟨_, a, cap, rfl, _, _, hat⟩ := hu
  clear hat
  go_enter Try.func8, Try.ntmps8
  go_wp2_with fail
  refine (toPipeS_any _ (HU.out.on (by repeat (first | (with_reducible exact gr_refl _ _) | (with_reducible assumption) | (with_reducible refine gr_drew ?_) | (with_reducible refine gr_drewN ?_ _) | (with_reducible refine gr_alloc ?_ _) | (with_reducible refine gr_set ?_ (.inr (by simp; done)) _) | (with_reducible refine gr_set ?_ (.inr (by simp; omega)) _) | (with_reducible refine gr_then ?_ (by with_reducible assumption))))) h1).mono ?_
  rintro e w1 ⟨u1, rfl, o1, g1⟩
  obtain ⟨a1, cp1, rfl⟩ : ∃ a c, u1 = .slice a ts.length c := by obtain ⟨_, a, c, e, _⟩ := o1.trips; exact ⟨a, c, e⟩
  have G1 : Gr w w1 none := gr_then (by repeat (first | (with_reducible exact gr_refl _ _) | (with_reducible assumption) | (with_reducible refine gr_drew ?_) | (with_reducible refine gr_drewN ?_ _) | (with_reducible refine gr_alloc ?_ _) | (with_reducible refine gr_set ?_ (.inr (by simp; done)) _) | (with_reducible refine gr_set ?_ (.inr (by simp; omega)) _) | (with_reducible refine gr_then ?_ (by with_reducible assumption)))) g1
  have hz1 : w.heap.size + 3 ≤ w1.heap.size := by have := gr_le g1; simp at this; omega
  have k30 := (gr_cell g1 (w.heap.size + 1 + 1) 0 (by simp)).trans (by simp [go_sem] : _ = some (Value.int .i64 n))
  have k31 := (gr_cell g1 (w.heap.size + 1 + 1) 1 (by simp)).trans (by simp [go_sem] : _ = some (Value.slice none 0 0))
  have k20 := (gr_cell g1 (w.heap.size + 1) 0 (by simp)).trans (by simp [go_sem] : _ = some (Value.int .i64 0))
  have k21 := (gr_cell g1 (w.heap.size + 1) 1 (by simp)).trans (by simp [go_sem] : _ = some (Value.slice none 0 0))
  have f31 := (gr_frozen g1 (w.heap.size + 1 + 1) 1 (by simp)).trans (by simp [go_sem] : _ = false)
  have f20 := (gr_frozen g1 (w.heap.size + 1) 0 (by simp)).trans (by simp [go_sem] : _ = false)
  have f21 := (gr_frozen g1 (w.heap.size + 1) 1 (by simp)).trans (by simp [go_sem] : _ = false)
  have O1 := hid o1
  clear g1 o1
  go_wp2
  refine bodyPost_ret (v := .agg #[.int .i64 n, .slice a1 ts.length cp1]) (by simp [results, Try.results8, go_sem, k20, k21]) rfl ⟨_, rfl, ?_, ?_⟩
  · have := O1.out
    simp only [World.size_alloc] at this
    exact OwnT.mono (B := w.heap.size + 1 + 1 + 1) (((this.set (p := ⟨w.heap.size + 1 + 1, 1, none⟩) (by simp) _).set (p := ⟨w.heap.size + 1, 0, none⟩) (by simp <;> omega) _).set (p := ⟨w.heap.size + 1, 1, none⟩) (by simp <;> omega) _) (by omega)
  · exact gr_set (gr_set (gr_set G1 (.inr (by simp; omega)) _) (.inr (by simp)) _) (.inr (by simp)) _
theorem szNet_any {u : Value} {ts : List Tri} (n : Int) (w : World) (hu : Trips w u ts) :
    Calls Try.prog 6 #[.agg #[.int .i64 n, u], .int .i64 1048576] w fun e w' => ∃ s : Int, e = .returned (.int .i64 s) ∧ (s < 0 ∨ (0 ≤ s ∧ ts.length ≤ 1048576)) ∧ Gr w w' none := by
  have HU := hid hu
  obtain ⟨_, a, cap, rfl, _, _, hat⟩ := hu
  clear hat
  by_cases h1 : (1048576 : Int) - ts.length < 0
  · go_enter Try.func6, Try.ntmps6
    go_wp2_with fail
    refine (szPipeS_any _ _ (HU.out.on (by repeat (first | (with_reducible exact gr_refl _ _) | (with_reducible assumption) | (with_reducible refine gr_drew ?_) | (with_reducible refine gr_drewN ?_ _) | (with_reducible refine gr_alloc ?_ _) | (with_reducible refine gr_set ?_ (.inr (by simp; done)) _) | (with_reducible refine gr_set ?_ (.inr (by simp; omega)) _) | (with_reducible refine gr_then ?_ (by with_reducible assumption))))) (by omega) (by omega)).mono ?_
    rw [if_pos h1]
    rintro e w1 ⟨rfl, g1⟩
    go_wp2
    go_ret
    exact ⟨-1, rfl, .inl (by omega), (by repeat (first | (with_reducible exact gr_refl _ _) | (with_reducible assumption) | (with_reducible refine gr_drew ?_) | (with_reducible refine gr_drewN ?_ _) | (with_reducible refine gr_alloc ?_ _) | (with_reducible refine gr_set ?_ (.inr (by simp; done)) _) | (with_reducible refine gr_set ?_ (.inr (by simp; omega)) _) | (with_reducible refine gr_then ?_ (by with_reducible assumption))))⟩
  · have h1' : (0 : Int) ≤ 1048576 - ts.length := by omega
    go_enter Try.func6, Try.ntmps6
    go_wp2_with fail
    refine (szPipeS_any _ _ (HU.out.on (by repeat (first | (with_reducible exact gr_refl _ _) | (with_reducible assumption) | (with_reducible refine gr_drew ?_) | (with_reducible refine gr_drewN ?_ _) | (with_reducible refine gr_alloc ?_ _) | (with_reducible refine gr_set ?_ (.inr (by simp; done)) _) | (with_reducible refine gr_set ?_ (.inr (by simp; omega)) _) | (with_reducible refine gr_then ?_ (by with_reducible assumption))))) (by omega) (by omega)).mono ?_
    rw [if_neg (by omega : ¬ ((1048576 : Int) - ts.length < 0))]
    rintro e w1 ⟨rfl, g1⟩
    go_wp2
    go_ret
    exact ⟨_, rfl, .inr ⟨h1', by omega⟩, (by repeat (first | (with_reducible exact gr_refl _ _) | (with_reducible assumption) | (with_reducible refine gr_drew ?_) | (with_reducible refine gr_drewN ?_ _) | (with_reducible refine gr_alloc ?_ _) | (with_reducible refine gr_set ?_ (.inr (by simp; done)) _) | (with_reducible refine gr_set ?_ (.inr (by simp; omega)) _) | (with_reducible refine gr_then ?_ (by with_reducible assumption))))⟩
theorem eqNet_any {u u' : Value} {ps qs : List Tri} (n : Int) (w : World) (hu : Trips w u ps) (hu' : Trips w u' qs) :
    Calls Try.prog 10 #[.agg #[.int .i64 n, u], .agg #[.int .i64 n, u']] w fun e w' => e = .returned (.bool (decide (ps = qs))) ∧ Gr w w' none := by
  have HU := hid hu
  have HU' := hid hu'
  obtain ⟨_, a, cap, rfl, _, _, hat⟩ := hu
  obtain ⟨_, b, bap, rfl, _, _, hat'⟩ := hu'
  clear hat hat'
  generalize hp : decide (ps = qs) = P
  have HP := hid hp
  clear hp
  go_enter Try.func10, Try.ntmps10
  go_wp2_with fail
  refine (eqPipeS_any _ (HU.out.on (by repeat (first | (with_reducible exact gr_refl _ _) | (with_reducible assumption) | (with_reducible refine gr_drew ?_) | (with_reducible refine gr_drewN ?_ _) | (with_reducible refine gr_alloc ?_ _) | (with_reducible refine gr_set ?_ (.inr (by simp; done)) _) | (with_reducible refine gr_set ?_ (.inr (by simp; omega)) _) | (with_reducible refine gr_then ?_ (by with_reducible assumption))))) (HU'.out.on (by repeat (first | (with_reducible exact gr_refl _ _) | (with_reducible assumption) | (with_reducible refine gr_drew ?_) | (with_reducible refine gr_drewN ?_ _) | (with_reducible refine gr_alloc ?_ _) | (with_reducible refine gr_set ?_ (.inr (by simp; done)) _) | (with_reducible refine gr_set ?_ (.inr (by simp; omega)) _) | (with_reducible refine gr_then ?_ (by with_reducible assumption)))))).mono ?_
  rw [HP.out]
  rintro e w1 ⟨rfl, g1⟩
  have G1 : Gr w w1 none := gr_then (by repeat (first | (with_reducible exact gr_refl _ _) | (with_reducible assumption) | (with_reducible refine gr_drew ?_) | (with_reducible refine gr_drewN ?_ _) | (with_reducible refine gr_alloc ?_ _) | (with_reducible refine gr_set ?_ (.inr (by simp; done)) _) | (with_reducible refine gr_set ?_ (.inr (by simp; omega)) _) | (with_reducible refine gr_then ?_ (by with_reducible assumption)))) g1
  cases P
  · go_wp2
    go_ret
    exact ⟨rfl, G1⟩
  · go_wp2
    go_ret
    exact ⟨rfl, G1⟩
/-- One pipe of a net of n places is in order. -/
def pipeB (n : Int) (x : Tri) : Bool := inB x.1 0 (n - 1) && inB x.2.1 0 (n - 1) && !decide (x.1 = x.2.1) && inB x.2.2 1 1000
def netB (n : Int) (ts : List Tri) : Bool := inB n 2 8 && decide (ts.length ≤ 20) && ts.all (pipeB n)
def PipeTo (n : Int) (ts : List Tri) (k : Nat) : Prop := ∀ i, i < k → pipeB n (gt ts i) = true
theorem pipeTo_succ {n : Int} {ts : List Tri} {k : Nat} (h : PipeTo n ts k) (h' : pipeB n (gt ts k) = true) : PipeTo n ts (k + 1) := by
  intro i hi
  by_cases e : i = k
  · subst e; exact h'
  · exact h i (by omega)
theorem pipes_all {n : Int} {ts : List Tri} (h : PipeTo n ts ts.length) : ts.all (pipeB n) = true := by
  simp only [List.all_eq_true]
  intro x hx
  obtain ⟨i, hi, rfl⟩ := List.mem_iff_getElem.1 hx
  have := h i hi
  rwa [gt_lt hi] at this
theorem pipes_get {n : Int} {ts : List Tri} (h : ts.all (pipeB n) = true) {i : Nat} (hi : i < ts.length) : pipeB n (gt ts i) = true := by
  simp only [List.all_eq_true] at h
  exact h _ (gt_mem hi)
theorem net_no {n : Int} {ts : List Tri} {i : Nat} (hi : i < ts.length) (h : pipeB n (gt ts i) = false) : netB n ts = false := by
  cases e : ts.all (pipeB n)
  · simp [netB, e]
  · rw [pipes_get e hi] at h; cases h
theorem netB_parts {n : Int} {ts : List Tri} (h : netB n ts = true) : (2 ≤ n ∧ n ≤ 8) ∧ ts.length ≤ 20 ∧ ∀ i, i < ts.length → (0 ≤ (gt ts i).1 ∧ (gt ts i).1 ≤ n - 1) ∧ (0 ≤ (gt ts i).2.1 ∧ (gt ts i).2.1 ≤ n - 1) ∧ (gt ts i).1 ≠ (gt ts i).2.1 ∧ 1 ≤ (gt ts i).2.2 ∧ (gt ts i).2.2 ≤ 1000 := by
  simp only [netB, Bool.and_eq_true, decide_eq_true_eq] at h
  obtain ⟨⟨h1, h2⟩, h3⟩ := h
  refine ⟨inB_true h1, h2, fun i hi => ?_⟩
  have := pipes_get h3 hi
  simp only [pipeB, Bool.and_eq_true, Bool.not_eq_true', decide_eq_false_iff_not] at this
  obtain ⟨⟨⟨a, b⟩, c⟩, d⟩ := this
  exact ⟨inB_true a, inB_true b, c, inB_true d⟩
theorem netOk_any {u : Value} {ts : List Tri} (n : Int) (w : World) (hu : Trips w u ts) :
    Calls Try.prog 9 #[.agg #[.int .i64 n, u]] w fun e w' => e = .returned (.bool (netB n ts)) ∧ Gr w w' none := by
  obtain ⟨_, a, cap, rfl, hcap, hmax, hat⟩ := hu
  unfold maxLen at hmax
  cases h0 : inB n 2 8
  · have HC : Hid (netB n ts = false) := by simp [netB, h0, Hid]
    clear hat
    go_enter Try.func9, Try.ntmps9
    go_wp2_with (go_at_call 23; refine (within_any _ _ _ _).mono ?_; rintro e w' ⟨rfl, rfl⟩)
    go_ret
    exact ⟨by rw [HC.out]; rfl, (by repeat (first | (with_reducible exact gr_refl _ _) | (with_reducible assumption) | (with_reducible refine gr_drew ?_) | (with_reducible refine gr_drewN ?_ _) | (with_reducible refine gr_alloc ?_ _) | (with_reducible refine gr_set ?_ (.inr (by simp; done)) _) | (with_reducible refine gr_set ?_ (.inr (by simp; omega)) _) | (with_reducible refine gr_then ?_ (by with_reducible assumption))))⟩
  obtain ⟨hn1, hn2⟩ := inB_true h0
  by_cases hl : ts.length ≤ 20
  · have HN := hid h0
    go_enter Try.func9, Try.ntmps9
    go_wp2_with (go_at_call 23; refine (within_any _ _ _ _).mono ?_; rintro e w' ⟨rfl, rfl⟩)
    go_loopw [18] (fun i wr => ∃ k : Nat, k ≤ ts.length ∧ i = .int .i64 k ∧ PipeTo n ts k ∧ Gr w wr none ∧ wr.cell? ⟨w.heap.size, 0, none⟩ = some (.int .i64 n) ∧ w.heap.size < wr.heap.size) (fun i _ => ts.length - (intOf i).toNat)
    case atStart => exact ⟨0, Nat.zero_le _, rfl, fun i h => by omega, (by repeat (first | (with_reducible exact gr_refl _ _) | (with_reducible assumption) | (with_reducible refine gr_drew ?_) | (with_reducible refine gr_drewN ?_ _) | (with_reducible refine gr_alloc ?_ _) | (with_reducible refine gr_set ?_ (.inr (by simp; done)) _) | (with_reducible refine gr_set ?_ (.inr (by simp; omega)) _) | (with_reducible refine gr_then ?_ (by with_reducible assumption)))), by simp, by simp⟩
    case round =>
      obtain ⟨k, hk, rfl, hall, hg, hcn, hsz⟩ := hrel
      have HAL := hid hall
      clear hall
      by_cases hlt : k < ts.length
      · obtain ⟨b, off, rfl, hc⟩ : ∃ b off, a = some ⟨b, off, none⟩ ∧ TripsAt w b off ts := by
          rcases hat with h0 | h0
          · subst h0; simp at hlt
          · exact h0
        obtain ⟨c1, c2, c3⟩ := (hc.kept hg (by simp)) k hlt
        have HNO : Hid (pipeB n (gt ts k) = false → netB n ts = false) := net_no hlt
        clear hc hat
        have HX : Hid (pipeB n (gt ts k) = (inB (gt ts k).1 0 (n - 1) && inB (gt ts k).2.1 0 (n - 1) && !decide ((gt ts k).1 = (gt ts k).2.1) && inB (gt ts k).2.2 1 1000)) := rfl
        generalize hX : gt ts k = X at *
        have HK := hid hX
        clear hX
        obtain ⟨x, y, z⟩ := X
        dsimp only at c1 c2 c3
        cases h1 : inB x 0 (n - 1)
        · have HC : Hid (netB n ts = false) := HNO.out (by rw [HX.out]; simp [h1])
          go_wp2_with (go_at_call 23; refine (within_any _ _ _ _).mono ?_; rintro e w' ⟨rfl, rfl⟩)
          go_ret
          exact ⟨by rw [HC.out]; rfl, (by repeat (first | (with_reducible exact gr_refl _ _) | (with_reducible assumption) | (with_reducible refine gr_drew ?_) | (with_reducible refine gr_drewN ?_ _) | (with_reducible refine gr_alloc ?_ _) | (with_reducible refine gr_set ?_ (.inr (by simp; done)) _) | (with_reducible refine gr_set ?_ (.inr (by simp; omega)) _) | (with_reducible refine gr_then ?_ (by with_reducible assumption))))⟩
        cases h2 : inB y 0 (n - 1)
        · have HC : Hid (netB n ts = false) := HNO.out (by rw [HX.out]; simp [h2])
          go_wp2_with (go_at_call 23; refine (within_any _ _ _ _).mono ?_; rintro e w' ⟨rfl, rfl⟩)
          go_ret
          exact ⟨by rw [HC.out]; rfl, (by repeat (first | (with_reducible exact gr_refl _ _) | (with_reducible assumption) | (with_reducible refine gr_drew ?_) | (with_reducible refine gr_drewN ?_ _) | (with_reducible refine gr_alloc ?_ _) | (with_reducible refine gr_set ?_ (.inr (by simp; done)) _) | (with_reducible refine gr_set ?_ (.inr (by simp; omega)) _) | (with_reducible refine gr_then ?_ (by with_reducible assumption))))⟩
        by_cases h3 : x = y
        · have HC : Hid (netB n ts = false) := HNO.out (by rw [HX.out]; simp [h3])
          have h3' : (x == y) = true := by simpa using h3
          clear h3
          go_wp2_with (go_at_call 23; refine (within_any _ _ _ _).mono ?_; rintro e w' ⟨rfl, rfl⟩)
          go_ret
          exact ⟨by rw [HC.out]; rfl, (by repeat (first | (with_reducible exact gr_refl _ _) | (with_reducible assumption) | (with_reducible refine gr_drew ?_) | (with_reducible refine gr_drewN ?_ _) | (with_reducible refine gr_alloc ?_ _) | (with_reducible refine gr_set ?_ (.inr (by simp; done)) _) | (with_reducible refine gr_set ?_ (.inr (by simp; omega)) _) | (with_reducible refine gr_then ?_ (by with_reducible assumption))))⟩
        have h3' : (x == y) = false := by simpa using h3
        cases h4 : inB z 1 1000
        · have HC : Hid (netB n ts = false) := HNO.out (by rw [HX.out]; simp [h4])
          clear h3
          go_wp2_with (go_at_call 23; refine (within_any _ _ _ _).mono ?_; rintro e w' ⟨rfl, rfl⟩)
          go_ret
          exact ⟨by rw [HC.out]; rfl, (by repeat (first | (with_reducible exact gr_refl _ _) | (with_reducible assumption) | (with_reducible refine gr_drew ?_) | (with_reducible refine gr_drewN ?_ _) | (with_reducible refine gr_alloc ?_ _) | (with_reducible refine gr_set ?_ (.inr (by simp; done)) _) | (with_reducible refine gr_set ?_ (.inr (by simp; omega)) _) | (with_reducible refine gr_then ?_ (by with_reducible assumption))))⟩
        · have HC : Hid (pipeB n (x, y, z) = true) := by show _ = _; rw [HX.out]; simp [h1, h2, h3, h4]
          clear h3
          have hcn' := (World.cell?_alloc_lt wr (.cells #[.int .i64 x, .int .i64 y, .int .i64 z] 45) ⟨w.heap.size, 0, none⟩ hsz).trans hcn
          go_wp2_with (go_at_call 23; refine (within_any _ _ _ _).mono ?_; rintro e w' ⟨rfl, rfl⟩)
          go_roundw
          case rel => exact ⟨k + 1, by omega, by go_num, pipeTo_succ HAL.out (by rw [HK.out]; exact HC.out), gr_alloc hg _, by assumption, by simp; omega⟩
          case measure => simp [intOf]; omega
      · have hkl : k = ts.length := by omega
        have HC : Hid (netB n ts = true) := by
          have := pipes_all (n := n) (ts := ts) (by rw [← hkl]; exact HAL.out)
          simp [netB, HN.out, this, hl, Hid]
        subst hkl
        clear hat
        go_wp2
        go_ret
        exact ⟨by rw [HC.out]; rfl, hg⟩
  · have HC : Hid (netB n ts = false) := by simp [netB, hl, Hid]
    clear hat
    go_enter Try.func9, Try.ntmps9
    go_wp2_with (go_at_call 23; refine (within_any _ _ _ _).mono ?_; rintro e w' ⟨rfl, rfl⟩)
    go_ret
    exact ⟨by rw [HC.out]; rfl, (by repeat (first | (with_reducible exact gr_refl _ _) | (with_reducible assumption) | (with_reducible refine gr_drew ?_) | (with_reducible refine gr_drewN ?_ _) | (with_reducible refine gr_alloc ?_ _) | (with_reducible refine gr_set ?_ (.inr (by simp; done)) _) | (with_reducible refine gr_set ?_ (.inr (by simp; omega)) _) | (with_reducible refine gr_then ?_ (by with_reducible assumption))))⟩
theorem sNetOk_any {u : Value} {ts : List Tri} (n : Int) (w : World) (hu : Trips w u ts) :
    Calls Try.prog 7 #[.agg #[.int .i64 n, u]] w fun e w' => e = .returned (.bool (netB n ts)) ∧ Gr w w' none := by
  obtain ⟨_, a, cap, rfl, hcap, hmax, hat⟩ := hu
  unfold maxLen at hmax
  cases h0 : inB n 2 8
  · have HC : Hid (netB n ts = false) := by simp [netB, h0, Hid]
    go_enter Try.func7, Try.ntmps7
    go_wp2
    go_loopw [3] (fun i wr => ∃ k : Nat, k ≤ ts.length ∧ i = .int .i64 k ∧ Gr w wr none ∧ wr.cell? ⟨w.heap.size, 0, none⟩ = some (.int .i64 n) ∧ wr.cell? ⟨w.heap.size, 1, none⟩ = some (.slice a ts.length cap) ∧ w.heap.size < wr.heap.size) (fun i _ => ts.length - (intOf i).toNat)
    case atStart => exact ⟨0, Nat.zero_le _, rfl, (by repeat (first | (with_reducible exact gr_refl _ _) | (with_reducible assumption) | (with_reducible refine gr_drew ?_) | (with_reducible refine gr_drewN ?_ _) | (with_reducible refine gr_alloc ?_ _) | (with_reducible refine gr_set ?_ (.inr (by simp; done)) _) | (with_reducible refine gr_set ?_ (.inr (by simp; omega)) _) | (with_reducible refine gr_then ?_ (by with_reducible assumption)))), by simp, by simp, by simp⟩
    case round =>
      obtain ⟨k, hk, rfl, hg, hcn, hcs, hsz⟩ := hrel
      by_cases hlt : k < ts.length
      · obtain ⟨b, off, rfl, hc⟩ : ∃ b off, a = some ⟨b, off, none⟩ ∧ TripsAt w b off ts := by
          rcases hat with h0 | h0
          · subst h0; simp at hlt
          · exact h0
        obtain ⟨c1, c2, c3⟩ := (hc.kept hg (by simp)) k hlt
        clear hc hat
        generalize hX : gt ts k = X at *
        clear hX
        obtain ⟨x, y, z⟩ := X
        dsimp only at c1 c2 c3
        have hcn' := (World.cell?_alloc_lt wr (.cells #[.int .i64 x, .int .i64 y, .int .i64 z] 45) ⟨w.heap.size, 0, none⟩ hsz).trans hcn
        have hcs' := (World.cell?_alloc_lt wr (.cells #[.int .i64 x, .int .i64 y, .int .i64 z] 45) ⟨w.heap.size, 1, none⟩ hsz).trans hcs
        go_wp2_with (go_at_call 21; refine (l01In_any _ _ _ _).mono ?_; rintro e w' ⟨rfl, rfl⟩)
        all_goals first
          | (go_ret; exact ⟨by rw [HC.out]; rfl, (by repeat (first | (with_reducible exact gr_refl _ _) | (with_reducible assumption) | (with_reducible refine gr_drew ?_) | (with_reducible refine gr_drewN ?_ _) | (with_reducible refine gr_alloc ?_ _) | (with_reducible refine gr_set ?_ (.inr (by simp; done)) _) | (with_reducible refine gr_set ?_ (.inr (by simp; omega)) _) | (with_reducible refine gr_then ?_ (by with_reducible assumption))))⟩)
          | (go_roundw
             case rel => exact ⟨k + 1, by omega, by go_num, gr_alloc hg _, by assumption, by assumption, by simp; omega⟩
             case measure => simp [intOf]; omega)
      · have hkl : k = ts.length := by omega
        subst hkl
        clear hat
        go_wp2_with (go_at_call 21; refine (l01In_any _ _ _ _).mono ?_; rintro e w' ⟨rfl, rfl⟩)
        go_ret
        exact ⟨by rw [HC.out]; rfl, (by repeat (first | (with_reducible exact gr_refl _ _) | (with_reducible assumption) | (with_reducible refine gr_drew ?_) | (with_reducible refine gr_drewN ?_ _) | (with_reducible refine gr_alloc ?_ _) | (with_reducible refine gr_set ?_ (.inr (by simp; done)) _) | (with_reducible refine gr_set ?_ (.inr (by simp; omega)) _) | (with_reducible refine gr_then ?_ (by with_reducible assumption))))⟩
  obtain ⟨hn1, hn2⟩ := inB_true h0
  have HN := hid h0
  go_enter Try.func7, Try.ntmps7
  go_wp2
  go_loopw [3] (fun i wr => ∃ k : Nat, k ≤ ts.length ∧ i = .int .i64 k ∧ PipeTo n ts k ∧ Gr w wr none ∧ wr.cell? ⟨w.heap.size, 0, none⟩ = some (.int .i64 n) ∧ wr.cell? ⟨w.heap.size, 1, none⟩ = some (.slice a ts.length cap) ∧ w.heap.size < wr.heap.size) (fun i _ => ts.length - (intOf i).toNat)
  case atStart => exact ⟨0, Nat.zero_le _, rfl, fun i h => by omega, (by repeat (first | (with_reducible exact gr_refl _ _) | (with_reducible assumption) | (with_reducible refine gr_drew ?_) | (with_reducible refine gr_drewN ?_ _) | (with_reducible refine gr_alloc ?_ _) | (with_reducible refine gr_set ?_ (.inr (by simp; done)) _) | (with_reducible refine gr_set ?_ (.inr (by simp; omega)) _) | (with_reducible refine gr_then ?_ (by with_reducible assumption)))), by simp, by simp, by simp⟩
  case round =>
    obtain ⟨k, hk, rfl, hall, hg, hcn, hcs, hsz⟩ := hrel
    have HAL := hid hall
    clear hall
    by_cases hlt : k < ts.length
    · obtain ⟨b, off, rfl, hc⟩ : ∃ b off, a = some ⟨b, off, none⟩ ∧ TripsAt w b off ts := by
        rcases hat with h0 | h0
        · subst h0; simp at hlt
        · exact h0
      obtain ⟨c1, c2, c3⟩ := (hc.kept hg (by simp)) k hlt
      have HNO : Hid (pipeB n (gt ts k) = false → netB n ts = false) := net_no hlt
      clear hc hat
      have HX : Hid (pipeB n (gt ts k) = (inB (gt ts k).1 0 (n - 1) && inB (gt ts k).2.1 0 (n - 1) && !decide ((gt ts k).1 = (gt ts k).2.1) && inB (gt ts k).2.2 1 1000)) := rfl
      generalize hX : gt ts k = X at *
      have HK := hid hX
      clear hX
      obtain ⟨x, y, z⟩ := X
      dsimp only at c1 c2 c3
      have hcn' := (World.cell?_alloc_lt wr (.cells #[.int .i64 x, .int .i64 y, .int .i64 z] 45) ⟨w.heap.size, 0, none⟩ hsz).trans hcn
      have hcs' := (World.cell?_alloc_lt wr (.cells #[.int .i64 x, .int .i64 y, .int .i64 z] 45) ⟨w.heap.size, 1, none⟩ hsz).trans hcs
      cases h1 : inB x 0 (n - 1)
      · have HC : Hid (netB n ts = false) := HNO.out (by rw [HX.out]; simp [h1])
        go_wp2_with (go_at_call 21; refine (l01In_any _ _ _ _).mono ?_; rintro e w' ⟨rfl, rfl⟩)
        go_ret
        exact ⟨by rw [HC.out]; rfl, (by repeat (first | (with_reducible exact gr_refl _ _) | (with_reducible assumption) | (with_reducible refine gr_drew ?_) | (with_reducible refine gr_drewN ?_ _) | (with_reducible refine gr_alloc ?_ _) | (with_reducible refine gr_set ?_ (.inr (by simp; done)) _) | (with_reducible refine gr_set ?_ (.inr (by simp; omega)) _) | (with_reducible refine gr_then ?_ (by with_reducible assumption))))⟩
      cases h2 : inB y 0 (n - 1)
      · have HC : Hid (netB n ts = false) := HNO.out (by rw [HX.out]; simp [h2])
        go_wp2_with (go_at_call 21; refine (l01In_any _ _ _ _).mono ?_; rintro e w' ⟨rfl, rfl⟩)
        go_ret
        exact ⟨by rw [HC.out]; rfl, (by repeat (first | (with_reducible exact gr_refl _ _) | (with_reducible assumption) | (with_reducible refine gr_drew ?_) | (with_reducible refine gr_drewN ?_ _) | (with_reducible refine gr_alloc ?_ _) | (with_reducible refine gr_set ?_ (.inr (by simp; done)) _) | (with_reducible refine gr_set ?_ (.inr (by simp; omega)) _) | (with_reducible refine gr_then ?_ (by with_reducible assumption))))⟩
      by_cases h3 : x = y
      · have HC : Hid (netB n ts = false) := HNO.out (by rw [HX.out]; simp [h3])
        have h3' : (x == y) = true := by simpa using h3
        clear h3
        go_wp2_with (go_at_call 21; refine (l01In_any _ _ _ _).mono ?_; rintro e w' ⟨rfl, rfl⟩)
        go_ret
        exact ⟨by rw [HC.out]; rfl, (by repeat (first | (with_reducible exact gr_refl _ _) | (with_reducible assumption) | (with_reducible refine gr_drew ?_) | (with_reducible refine gr_drewN ?_ _) | (with_reducible refine gr_alloc ?_ _) | (with_reducible refine gr_set ?_ (.inr (by simp; done)) _) | (with_reducible refine gr_set ?_ (.inr (by simp; omega)) _) | (with_reducible refine gr_then ?_ (by with_reducible assumption))))⟩
      have h3' : (x == y) = false := by simpa using h3
      cases h4 : inB z 1 1000
      · have HC : Hid (netB n ts = false) := HNO.out (by rw [HX.out]; simp [h4])
        clear h3
        go_wp2_with (go_at_call 21; refine (l01In_any _ _ _ _).mono ?_; rintro e w' ⟨rfl, rfl⟩)
        go_ret
        exact ⟨by rw [HC.out]; rfl, (by repeat (first | (with_reducible exact gr_refl _ _) | (with_reducible assumption) | (with_reducible refine gr_drew ?_) | (with_reducible refine gr_drewN ?_ _) | (with_reducible refine gr_alloc ?_ _) | (with_reducible refine gr_set ?_ (.inr (by simp; done)) _) | (with_reducible refine gr_set ?_ (.inr (by simp; omega)) _) | (with_reducible refine gr_then ?_ (by with_reducible assumption))))⟩
      · have HC : Hid (pipeB n (x, y, z) = true) := by show _ = _; rw [HX.out]; simp [h1, h2, h3, h4]
        clear h3
        go_wp2_with (go_at_call 21; refine (l01In_any _ _ _ _).mono ?_; rintro e w' ⟨rfl, rfl⟩)
        go_roundw
        case rel => exact ⟨k + 1, by omega, by go_num, pipeTo_succ HAL.out (by rw [HK.out]; exact HC.out), gr_alloc hg _, by assumption, by assumption, by simp; omega⟩
        case measure => simp [intOf]; omega
    · have hkl : k = ts.length := by omega
      have HC : Hid (netB n ts = decide (ts.length ≤ 20)) := by
        have := pipes_all (n := n) (ts := ts) (by rw [← hkl]; exact HAL.out)
        simp [netB, HN.out, this, Hid]
      subst hkl
      clear hat
      by_cases hl : ts.length ≤ 20
      · have HD : Hid (netB n ts = true) := by show _ = _; rw [HC.out]; simpa using hl
        go_wp2_with (go_at_call 21; refine (l01In_any _ _ _ _).mono ?_; rintro e w' ⟨rfl, rfl⟩)
        go_ret
        exact ⟨ret_bool (by rw [HD.out]; simp; omega), hg⟩
      · have HD : Hid (netB n ts = false) := by show _ = _; rw [HC.out]; simpa using hl
        go_wp2_with (go_at_call 21; refine (l01In_any _ _ _ _).mono ?_; rintro e w' ⟨rfl, rfl⟩)
        go_ret
        exact ⟨ret_bool (by rw [HD.out]; simp; omega), hg⟩
end Go.Proofs.Ytbkpphcmdjllnaa
