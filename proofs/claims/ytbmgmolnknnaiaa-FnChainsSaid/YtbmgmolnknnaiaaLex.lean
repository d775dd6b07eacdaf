/- A long drawn region that only reads, but for callees that make memory, walked once in the order of the text; the check of its edges by masks of bits, which the kernel reckons fast. No program is in sight. -/
import Derived.Test.YtbmgmolnknnaiaaBase
namespace Go.Proofs.Ytbmgmolnknnaiaa
open Go.RowKit

/-- The numbers of a list as bits. -/
def maskL : List Nat → Nat
  | [] => 0
  | t :: r => 2 ^ t ||| maskL r
theorem maskL_bit : ∀ (l : List Nat) (t : Nat), (maskL l).testBit t = l.contains t
  | [], t => by simp [maskL]
  | x :: r, t => by
    simp only [maskL, Nat.testBit_or, Nat.testBit_two_pow, maskL_bit r t, List.contains_cons]
    congr 1
    by_cases h : x = t
    · subst h; simp
    · have h' : ¬ t = x := fun e => h e.symm
      simp [h, h']
def maskE : List Edge → Nat
  | [] => 0
  | e :: r => if Region.binds .any e then 2 ^ e.on ||| maskE r else maskE r
theorem maskE_bit : ∀ (l : List Edge) (t : Nat), (maskE l).testBit t = l.any fun e => Region.binds .any e && e.on == t
  | [], t => by simp [maskE]
  | e :: r, t => by
    simp only [maskE, List.any_cons]
    cases hb : Region.binds .any e
    · simp [maskE_bit r t]
    · simp only [if_true, Bool.true_and, Nat.testBit_or, Nat.testBit_two_pow, maskE_bit r t]
      rfl
def dM (o : Oper) : Nat := maskL o.dst.toList
def lM (ops : Array Oper) (o : Oper) : Nat := maskL (o.looksAt ops)
def eM (o : Oper) : Nat := maskE o.after.toList
def pairB (ops : Array Oper) (o : Oper) (k : Nat) (o' : Oper) : Bool :=
  Nat.beq ((eM o' >>> k) % 2) 1 || (Nat.beq (dM o &&& (lM ops o' ||| dM o')) 0 && Nat.beq (dM o' &&& lM ops o) 0)
def pairGo (ops : Array Oper) (o : Oper) (k : Nat) : List Oper → Bool
  | [] => true
  | o' :: r => pairB ops o k o' && pairGo ops o k r
def lexGo (ops : Array Oper) : List Oper → Nat → Bool
  | [], _ => true
  | o :: r, k => Nat.blt (eM o) (2 ^ k) && (pairGo ops o k r && lexGo ops r (k + 1))
theorem and_zero_bit {a b t : Nat} (h : a &&& b = 0) (ha : a.testBit t = true) : b.testBit t = false := by
  have := congrArg (fun n => n.testBit t) h
  simp only [Nat.testBit_and, ha, Bool.true_and, Nat.zero_testBit] at this
  exact this
theorem pairB_spec {ops : Array Oper} {o o' : Oper} {k : Nat} (h : pairB ops o k o' = true) : (o'.after.any fun e => Region.binds .any e && e.on == k) = true ∨ o.apart ops o' = true := by
  simp only [pairB, Bool.or_eq_true, Bool.and_eq_true] at h
  rcases h with h | ⟨h1, h2⟩
  · left
    have h := Nat.eq_of_beq_eq_true h
    have hb : (eM o').testBit k = true := by rw [Nat.testBit_eq_decide_div_mod_eq, ← Nat.shiftRight_eq_div_pow, h]; rfl
    rw [eM, maskE_bit] at hb
    simpa using hb
  · right
    have h1 := Nat.eq_of_beq_eq_true h1
    have h2 := Nat.eq_of_beq_eq_true h2
    have hx : ∀ d, o.dst = some d → (o'.looksAt ops).contains d = false ∧ o'.dst ≠ some d := by
      intro d hd
      have hb : (dM o).testBit d = true := by rw [dM, maskL_bit, hd]; simp
      have h3 := and_zero_bit h1 hb
      rw [Nat.testBit_or, Bool.or_eq_false_iff] at h3
      refine ⟨by have := h3.1; rwa [lM, maskL_bit] at this, fun e => ?_⟩
      have := h3.2
      rw [dM, maskL_bit, e] at this
      simp at this
    have hy : ∀ d, o'.dst = some d → (o.looksAt ops).contains d = false := by
      intro d hd
      have hb : (dM o').testBit d = true := by rw [dM, maskL_bit, hd]; simp
      have h3 := and_zero_bit h2 hb
      rwa [lM, maskL_bit] at h3
    unfold Oper.apart
    cases hd : o.dst with
    | none =>
      cases hd' : o'.dst with
      | none => rfl
      | some d' => simp only [Bool.true_and]; rw [hy d' hd']; rfl
    | some d =>
      obtain ⟨a1, a2⟩ := hx d hd
      cases hd' : o'.dst with
      | none => simp only [Bool.and_true]; rw [a1]; simp
      | some d' =>
        have : (some d' != some d) = true := by rw [hd'] at a2; simpa using a2
        simp only []
        rw [a1, hy d' hd', this]; rfl
theorem pairGo_spec {ops : Array Oper} {o : Oper} {k : Nat} : ∀ {l : List Oper}, pairGo ops o k l = true → ∀ (j : Nat) (o' : Oper), l[j]? = some o' → pairB ops o k o' = true
  | [], _, j, o', h => by simp at h
  | x :: r, h, j, o', hj => by
    simp only [pairGo, Bool.and_eq_true] at h
    match j, hj with
    | 0, hj => simp at hj; subst hj; exact h.1
    | j + 1, hj => exact pairGo_spec h.2 j o' (by simpa using hj)
theorem lexFrom_of (ops : Array Oper) : ∀ (l : List Oper) (k : Nat) (listed : Array Bool), (∀ j, l[j]? = ops[k + j]?) → (∀ j, j < k → listed[j]? = some true) → (∀ j, k ≤ j → j < ops.size → listed[j]? = some false) →
    lexGo ops l k = true → Region.lexFrom .any ops l.length k listed = true
  | [], k, listed, hl, hT, _, _ => by
    simp only [List.length_nil, Region.lexFrom, Region.ready, List.isEmpty_iff, List.filter_eq_nil_iff, List.mem_range]
    intro i hi
    have hk : i < k := by
      rcases Nat.lt_or_ge i k with h | h
      · exact h
      · have h1 := hl (i - k)
        rw [show k + (i - k) = i by omega, Array.getElem?_eq_getElem hi] at h1
        simp at h1
    simp [Array.getD_eq_getD_getElem?, hT i hk]
  | o :: r, k, listed, hl, hT, hF, h => by
    have h0 : ops[k]? = some o := by simpa using (hl 0).symm
    have hks : k < ops.size := (Array.getElem?_eq_some_iff.1 h0).1
    simp only [lexGo, Bool.and_eq_true] at h
    obtain ⟨hE, hP, hR⟩ := h
    have hE : eM o < 2 ^ k := Nat.le_of_ble_eq_true hE
    have hls : k < listed.size := (Array.getElem?_eq_some_iff.1 (hF k (Nat.le_refl _) hks)).1
    simp only [List.length_cons, Region.lexFrom, Bool.and_eq_true]
    refine ⟨⟨?_, ?_⟩, ?_⟩
    · simp only [List.contains_iff_mem, Region.ready, List.mem_filter, List.mem_range]
      refine ⟨hks, ?_⟩
      simp only [Array.getD_eq_getD_getElem?, hF k (Nat.le_refl _) hks, h0, Option.map_some, Option.getD_some, Bool.not_false, Bool.true_and]
      rw [Array.all_eq_true']
      intro e he
      cases hb : Region.binds .any e
      · rfl
      · have hbit : (eM o).testBit e.on = true := by
          rw [eM, maskE_bit, List.any_eq_true]
          exact ⟨e, by simpa using he, by simp [hb]⟩
        have hlt : e.on < k := by
          rcases Nat.lt_or_ge e.on k with h' | h'
          · exact h'
          · have := Nat.testBit_lt_two_pow (Nat.lt_of_lt_of_le hE (Nat.pow_le_pow_right (by omega) h'))
            rw [this] at hbit; cases hbit
        simp [hT _ hlt]
    · unfold Region.free
      rw [h0]
      simp only [List.all_eq_true, List.mem_range]
      intro j hj
      rcases Nat.lt_trichotomy j k with hjk | hjk | hjk
      · simp [Array.getD_eq_getD_getElem?, hT j hjk]
      · simp [hjk]
      · have h1 := hl (j - k)
        rw [show k + (j - k) = j by omega, Array.getElem?_eq_getElem hj, show j - k = (j - k - 1) + 1 by omega, List.getElem?_cons_succ] at h1
        have h2 := pairB_spec (pairGo_spec hP _ _ h1)
        rw [Array.getElem?_eq_getElem hj]
        simp only [Bool.or_eq_true]
        right
        simpa using h2
    · refine lexFrom_of ops r (k + 1) _ (fun j => ?_) (fun j hj => ?_) (fun j hj hjs => ?_) hR
      · have := hl (j + 1)
        rw [show k + (j + 1) = k + 1 + j by omega] at this
        simpa using this
      · rcases Nat.lt_or_ge j k with h' | h'
        · rw [Array.getElem?_setIfInBounds_ne (by omega)]; exact hT j h'
        · obtain rfl : j = k := by omega
          simp [hls]
      · rw [Array.getElem?_setIfInBounds_ne (by omega)]; exact hF j (by omega) hjs
/-- The edges of a region let one walk in the order of the text serve. -/
theorem lexB_of {l : List Oper} (hs : Region.noSelect l.toArray = true) (h : lexGo l.toArray l 0 = true) : Region.lexB .any l.toArray = true := by
  simp only [Region.lexB, Bool.and_eq_true]
  refine ⟨hs, ?_⟩
  have := lexFrom_of l.toArray l 0 (Array.replicate l.toArray.size false) (by simp) (by intro j hj; omega) (by
    intro j _ hj
    rw [Array.getElem?_replicate, if_pos hj]) h
  simpa using this
/-- A world that grew out of w0. -/
structure Gw (w0 : World) where
  w : World
  h : Gr w0 w none
instance gw_some (w0 : World) : Nonempty (Gw w0) := ⟨⟨w0, gr_refl _ _⟩⟩
theorem gw_call {w0 : World} (s : Gw w0) {P : Program} {f : FuncId} {args : Array Value} {v : Value} (h : Calls P f args s.w fun e w' => e = .returned v ∧ Gr s.w w' none) :
    Calls P f args s.w fun e w'' => e = .returned v ∧ ∃ s' : Gw w0, w'' = s'.w :=
  h.mono fun _ w'' ⟨he, hg⟩ => ⟨he, ⟨w'', gr_then s.h hg⟩, rfl⟩
/-- A drawn region that only reads, but for callees that make memory: one walk, in the order of the text. -/
theorem region_gw {P : Program} {id : Nat} {Q : Exit → Act → World → Prop} {a : Act} {w0 : World} {l : List Oper} (hm : P.follows .mixedOrders = true) (hs : Region.noSelect l.toArray = true) (hB : lexGo l.toArray l 0 = true)
    (h : wpQuiet P l.toArray (fun w' => ∃ s : Gw w0, w' = s.w) (fun a' => ∀ w', (∃ s : Gw w0, w' = s.w) → Q .normal a' w') l a) : (Code.region id l.toArray true).wp P Q a w0 :=
  wp_region_quiet (C := fun w' => ∃ s : Gw w0, w' = s.w) hm (lexB_of hs hB) ⟨⟨w0.drew, gr_drew (gr_refl _ _)⟩, rfl⟩ (by simpa using h)
end Go.Proofs.Ytbmgmolnknnaiaa
