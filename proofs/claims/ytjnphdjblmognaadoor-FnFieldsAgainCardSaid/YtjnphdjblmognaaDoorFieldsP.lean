/- The fields of a line, joined by single spaces, have the same fields: plain laws. -/
import Derived.Test.YtjnphdjblmognaaDoorSplit
namespace Go.Proofs.YtjnphdjblmognaaDoor
open Go.RowKit

theorem bt_at (s : ByteArray) (i : Nat) : bt s i = ((s.data.toList[i]?.getD 0).toNat : Int) := by
  unfold bt; rw [← Array.getElem?_toList]
theorem size_list (s : ByteArray) : s.size = s.data.toList.length := rfl
theorem len_list (s : ByteArray) : s.data.toList.length = s.size := rfl
theorem ext_list (s : ByteArray) (b e : Nat) : (s.extract b e).data.toList = (s.data.toList.drop b).take (e - b) := by
  simp [List.extract_eq_take_drop]
theorem bt_ext {s : ByteArray} {b e i : Nat} (h : i < e - b) : bt (s.extract b e) i = bt s (b + i) := by
  rw [bt_at, bt_at, ext_list, List.getElem?_take_of_lt h, List.getElem?_drop]
theorem size_ext {s : ByteArray} {b e : Nat} (h : e ≤ s.size) : (s.extract b e).size = e - b := by
  rw [size_list, ext_list, List.length_take, List.length_drop, ← size_list]; omega
/-- A field: not empty, no space in it, all of it text. -/
def FieldOk (x : ByteArray) : Prop := 1 ≤ x.size ∧ ∀ i, i < x.size → bt x i ≠ 32 ∧ okC x i = true
theorem txtTo_get {s : ByteArray} : ∀ {n i : Nat}, txtTo s n = true → i < n → okC s i = true
  | n + 1, i, h, hi => by
    simp only [txtTo, Bool.and_eq_true] at h
    by_cases e : i = n
    · subst e; exact h.2
    · exact txtTo_get h.1 (by omega)
theorem okC_ext {s : ByteArray} {b e i : Nat} (h : i < e - b) : okC (s.extract b e) i = okC s (b + i) := by
  unfold okC; rw [bt_ext h]
theorem fields_ok {s : ByteArray} (ht : txtTo s s.size = true) : ∀ k, k ≤ s.size + 1 → (∀ i, begT s k ≤ i → i < k → i < s.size ∧ bt s i ≠ 32) ∧ ∀ x ∈ fldT s k, FieldOk x
  | 0, _ => ⟨fun i _ h => by omega, by simp [fldT]⟩
  | k + 1, hk => by
    obtain ⟨h1, h2⟩ := fields_ok ht k (by omega)
    by_cases hsp : spB s k = true
    · refine ⟨fun i hi hi' => by rw [begT_sp hsp] at hi; omega, ?_⟩
      by_cases hb : begT s k < k
      · rw [fldT_add hsp hb]
        intro x hx
        rcases List.mem_append.1 hx with h | h
        · exact h2 x h
        · simp at h
          subst h
          have hz := size_ext (s := s) (b := begT s k) (e := k) (by omega)
          refine ⟨by omega, fun i hi => ?_⟩
          rw [hz] at hi
          rw [bt_ext hi, okC_ext hi]
          have := h1 (begT s k + i) (by omega) (by omega)
          exact ⟨this.2, txtTo_get ht this.1⟩
      · rw [fldT_sp hb]; exact h2
    · have hn : spB s k = false := by simpa using hsp
      refine ⟨fun i hi hi' => ?_, by rw [fldT_no hn]; exact h2⟩
      rw [begT_no hn] at hi
      by_cases e : i = k
      · subst e
        simp only [spB, Bool.or_eq_false_iff, decide_eq_false_iff_not] at hn
        exact ⟨by omega, hn.2⟩
      · exact h1 i hi (by omega)
theorem spl_fields {s : ByteArray} (h : splB s = true) : (∀ x ∈ splV s, FieldOk x) ∧ (splV s).length ≤ 24 := by
  rw [spl_yes h]
  simp only [splB, Bool.and_eq_true, decide_eq_true_eq] at h
  exact ⟨(fields_ok h.1.2 _ (Nat.le_refl _)).2, h.2⟩
/-- The first k fields, a space behind each. -/
def joinTo (fs : List ByteArray) : Nat → ByteArray
  | 0 => ByteArray.empty
  | k + 1 => (joinTo fs k ++ gs fs k) ++ (⟨#[32]⟩ : ByteArray)
theorem app_list (a b : ByteArray) : (a ++ b).data.toList = a.data.toList ++ b.data.toList := by simp
theorem join_list (fs : List ByteArray) (k : Nat) : (joinTo fs (k + 1)).data.toList = (joinTo fs k).data.toList ++ ((gs fs k).data.toList ++ [32]) := by
  rw [joinTo, app_list, app_list, List.append_assoc]
theorem join_size (fs : List ByteArray) (k : Nat) : (joinTo fs (k + 1)).size = (joinTo fs k).size + (gs fs k).size + 1 := by
  rw [size_list, join_list, List.length_append, List.length_append, len_list, len_list]; simp; omega
theorem join_pre (fs : List ByteArray) : ∀ {k n : Nat}, k ≤ n → ∃ r, (joinTo fs n).data.toList = (joinTo fs k).data.toList ++ r
  | k, 0, h => ⟨[], by rw [show k = 0 by omega]; simp⟩
  | k, n + 1, h => by
    by_cases e : k = n + 1
    · exact ⟨[], by rw [e]; simp⟩
    · obtain ⟨r, hr⟩ := join_pre fs (k := k) (n := n) (by omega)
      exact ⟨r ++ ((gs fs n).data.toList ++ [32]), by rw [join_list, hr, List.append_assoc]⟩
theorem bt_mid {t : ByteArray} {l m r : List UInt8} (h : t.data.toList = l ++ (m ++ r)) {j : Nat} (hj : j < m.length) : bt t (l.length + j) = (m[j].toNat : Int) := by
  rw [bt_at, h, List.getElem?_append_right (by omega), show l.length + j - l.length = j by omega, List.getElem?_append_left hj, List.getElem?_eq_getElem hj]; rfl
/-- Through one field. -/
theorem field_in {t : ByteArray} {m : Nat} {G : List ByteArray} {L : Nat} (hz : m + L ≤ t.size) (h1 : begT t m = m) (h2 : fldT t m = G) (h3 : txtTo t m = true) (hf : ∀ j, j < L → bt t (m + j) ≠ 32 ∧ okC t (m + j) = true) :
    ∀ j, j ≤ L → begT t (m + j) = m ∧ fldT t (m + j) = G ∧ txtTo t (m + j) = true
  | 0, _ => ⟨h1, h2, h3⟩
  | j + 1, h => by
    obtain ⟨a, b, c⟩ := field_in hz h1 h2 h3 hf j (by omega)
    have := hf j (by omega)
    have hn := spB_no (s := t) (k := m + j) (by omega) this.1
    exact ⟨by rw [← Nat.add_assoc, begT_no hn, a], by rw [← Nat.add_assoc, fldT_no hn, b], txtTo_succ c this.2⟩
theorem join_state {fs : List ByteArray} (hok : ∀ x ∈ fs, FieldOk x) {t : ByteArray} (ht : t = joinTo fs fs.length) : ∀ k, k ≤ fs.length → begT t (joinTo fs k).size = (joinTo fs k).size ∧ fldT t (joinTo fs k).size = fs.take k ∧ txtTo t (joinTo fs k).size = true
  | 0, _ => ⟨rfl, rfl, rfl⟩
  | k + 1, hk => by
    obtain ⟨h1, h2, h3⟩ := join_state hok ht k (by omega)
    have hf := hok (gs fs k) (gs_mem (by omega))
    obtain ⟨r, hr⟩ := join_pre fs (k := k + 1) (n := fs.length) (by omega)
    rw [← ht, join_list, List.append_assoc, List.append_assoc] at hr
    have hzt : (joinTo fs k).size + (gs fs k).size + 1 ≤ t.size := by
      rw [size_list t, hr, List.length_append, List.length_append, len_list, len_list]; simp; omega
    have hb : ∀ j, j < (gs fs k).size → bt t ((joinTo fs k).size + j) = bt (gs fs k) j := by
      intro j hj
      rw [size_list (joinTo fs k), bt_mid hr (j := j) hj, bt_at, List.getElem?_eq_getElem (l := (gs fs k).data.toList) hj]; rfl
    have hin := field_in (L := (gs fs k).size) (by omega) h1 h2 h3 (fun j hj => by
      have := hf.2 j hj
      refine ⟨by rw [hb j hj]; exact this.1, ?_⟩
      unfold okC; rw [hb j hj]; exact this.2) _ (Nat.le_refl _)
    obtain ⟨a, b, c⟩ := hin
    have hsp : bt t ((joinTo fs k).size + (gs fs k).size) = 32 := by
      have hr' : t.data.toList = ((joinTo fs k).data.toList ++ (gs fs k).data.toList) ++ ([32] ++ r) := by rw [hr, List.append_assoc]
      have := bt_mid hr' (j := 0) (by simp)
      rw [List.length_append, len_list, len_list] at this
      simpa using this
    have hs := spB_yes hsp
    have hlt : begT t ((joinTo fs k).size + (gs fs k).size) < (joinTo fs k).size + (gs fs k).size := by rw [a]; have := hf.1; omega
    refine ⟨?_, ?_, ?_⟩
    · rw [join_size, begT_sp hs]
    · rw [join_size, fldT_add hs hlt, a, b, List.take_succ_eq_append_getElem (by omega)]
      congr 1
      simp only [List.cons.injEq, and_true]
      rw [← gs_lt (by omega)]
      apply Go.WideShapes.bytes_inj
      rw [ext_list, hr, size_list (joinTo fs k), List.drop_left, size_list (gs fs k), Nat.add_sub_cancel_left, List.take_left]
    · rw [join_size]
      exact txtTo_succ c (by unfold okC; rw [hsp]; rfl)
theorem split_join {fs : List ByteArray} (hok : ∀ x ∈ fs, FieldOk x) (hl : fs.length ≤ 24) (hz : (joinTo fs fs.length).size ≤ 600) : splB (joinTo fs fs.length) = true ∧ splV (joinTo fs fs.length) = fs := by
  obtain ⟨h1, h2, h3⟩ := join_state hok rfl fs.length (Nat.le_refl _)
  have hs := spB_end (s := joinTo fs fs.length) (Nat.le_refl _)
  have hF : fldT (joinTo fs fs.length) ((joinTo fs fs.length).size + 1) = fs := by
    rw [fldT_sp (by rw [h1]; omega), h2, List.take_length]
  have hb : splB (joinTo fs fs.length) = true := by rw [splB, h3, hF]; simp [hz, hl]
  exact ⟨hb, by rw [spl_yes hb, hF]⟩
theorem join_bd {fs : List ByteArray} {M : Nat} (h : ∀ x ∈ fs, x.size ≤ M) : ∀ k, k ≤ fs.length → (joinTo fs k).size ≤ (M + 1) * k
  | 0, _ => Nat.le_refl _
  | k + 1, hk => by
    have := join_bd h k (by omega)
    have := h (gs fs k) (gs_mem (by omega))
    rw [join_size, Nat.mul_succ]; omega
theorem fields_size {s : ByteArray} : ∀ k, k ≤ s.size + 1 → ∀ x ∈ fldT s k, x.size ≤ s.size
  | 0, _ => by simp [fldT]
  | k + 1, hk => by
    have ih := fields_size (s := s) k (by omega)
    simp only [fldT]
    split
    · intro x hx
      rcases List.mem_append.1 hx with h | h
      · exact ih x h
      · simp at h; subst h
        rw [size_ext (by omega)]; omega
    · exact ih
theorem spl_size {s : ByteArray} (h : splB s = true) : ∀ x ∈ splV s, x.size ≤ 600 := by
  rw [spl_yes h]
  simp only [splB, Bool.and_eq_true, decide_eq_true_eq] at h
  intro x hx
  have := fields_size _ (Nat.le_refl _) x hx
  omega
end Go.Proofs.YtjnphdjblmognaaDoor
