/- A net without a pipe: walk. -/
import Derived.Test.YtbkpphcmdjllnaaNetB
import Derived.Deep.RegionLaw
namespace Go.Proofs.Ytbkpphcmdjllnaa
open Go.RowKit

/-- The front of an owned row. -/
theorem own_front {w : World} {B : Nat} {E : TypeId} {g c : Nat} {ts : List Tri} (k : Nat) (h : w.ownsRow B E 3 (.slice (some ⟨g, 0, none⟩) ts.length c) ts.length (tcells ts)) (hk : k ≤ ts.length) :
    w.ownsRow B E 3 (.slice (some ⟨g, 0, none⟩) k c) k (tcells (ts.take k)) := by
  rcases h.2 with ⟨e, _⟩ | ⟨g', cap, cur, e, hB, hg, hc, hm, hs, ht⟩
  · cases e
  · simp only [Value.slice.injEq, Option.some.injEq, Addr.mk.injEq] at e
    obtain ⟨⟨rfl, _⟩, _, rfl⟩ := e
    refine ⟨by rw [tcells_length, List.length_take]; omega, .inr ⟨g, c, cur, rfl, hB, hg, by omega, hm, hs, ?_⟩⟩
    have e1 : tcells ts = tcells (ts.take k) ++ tcells (ts.drop k) := by rw [← tcells_append, List.take_append_drop]
    have e2 : (tcells (ts.take k)).length = k * 3 := by rw [tcells_length, List.length_take, Nat.min_eq_left hk]
    have e3 : cur.toList.take (k * 3) = (cur.toList.take (ts.length * 3)).take (k * 3) := by rw [List.take_take, Nat.min_eq_left (by omega)]
    rw [e3, ht, e1, ← e2, List.take_left]
/-- The back of an owned row, to be read. -/
theorem own_back {w : World} {B : Nat} {E : TypeId} {g c c' : Nat} {ts : List Tri} (k : Nat) (h : w.ownsRow B E 3 (.slice (some ⟨g, 0, none⟩) ts.length c) ts.length (tcells ts)) (hk : k ≤ ts.length) (o : Nat) (ho : o = k * 3) :
    SrcC w 3 (.slice (some ⟨g, o, none⟩) (ts.length - k) c') (ts.length - k) (tcells (ts.drop k)) := by
  subst ho
  refine ⟨by rw [tcells_length, List.length_drop], by intro u hu; simp only [tcells, List.mem_flatMap] at hu; obtain ⟨t, _, h⟩ := hu; simp at h; rcases h with h | h | h <;> subst h <;> rfl, .inl ⟨_, _, rfl, fun j u hu => ?_⟩⟩
  have e1 : tcells ts = tcells (ts.take k) ++ tcells (ts.drop k) := by rw [← tcells_append, List.take_append_drop]
  have e2 : (tcells (ts.take k)).length = k * 3 := by rw [tcells_length, List.length_take, Nat.min_eq_left hk]
  have hj : j < (ts.length - k) * 3 := by
    rcases Nat.lt_or_ge j ((ts.length - k) * 3) with h' | h'
    · exact h'
    · rw [List.getElem?_eq_none (by rw [tcells_length, List.length_drop]; exact h')] at hu; cases hu
  have e3 : (tcells ts)[k * 3 + j]? = some u := by
    rw [e1, List.getElem?_append_right (by rw [e2]; omega), e2, show k * 3 + j - k * 3 = j by omega]
    exact hu
  have := (h.cellAt (k * 3 + j) (by omega)).trans e3
  by_cases h0 : j = 0
  · subst h0; simpa [Addr.add] using this
  · simpa [Addr.add, h0] using this
theorem own_back' {w : World} {B : Nat} {E : TypeId} {g c c' : Nat} {ts : List Tri} (k : Nat) (h : w.ownsRow B E 3 (.slice (some ⟨g, 0, none⟩) ts.length c) ts.length (tcells ts)) (hk : k ≤ ts.length) :
    SrcC w 3 (.slice (if c = k then some ⟨g, 0, none⟩ else some ⟨g, k * 3, none⟩) (ts.length - k) (c' - k)) (ts.length - k) (tcells (ts.drop k)) := by
  by_cases hc : c = k
  · have hl : ts.length ≤ c := by
      obtain ⟨_, _, _, e, _, _, h1, _⟩ := h.2.resolve_left (by rintro ⟨e, _⟩; cases e)
      cases e; exact h1
    have e1 : ts.length - k = 0 := by omega
    rw [if_pos hc, e1, List.drop_eq_nil_of_le (by omega)]
    exact ⟨rfl, by simp [tcells], .inl ⟨_, _, rfl, by simp [tcells]⟩⟩
  · rw [if_neg hc]
    exact own_back k h hk _ rfl
/-- A net without its pipe k. -/
def lessT (ts : List Tri) (k : Nat) : List Tri := ts.take k ++ ts.drop (k + 1)
theorem lessT_length {ts : List Tri} {k : Nat} (h : k < ts.length) : (lessT ts k).length = ts.length - 1 := by
  rw [lessT, List.length_append, List.length_take, List.length_drop]; omega
theorem lessT_mem {ts : List Tri} {k : Nat} {t : Tri} (h : t ∈ lessT ts k) : t ∈ ts := by
  rcases List.mem_append.1 h with h | h
  · exact List.mem_of_mem_take h
  · exact List.mem_of_mem_drop h
def RetWt (T : TypeId) (w : World) (n : Int) (ts : List Tri) (e : Ending) (w' : World) : Prop := ∃ u, e = .returned (.tuple #[.agg #[.int .i64 n, u], .bool true]) ∧ OwnT T w' w.heap.size u ts ∧ Gr w w' none
theorem withoutPipe_any {u : Value} {ts : List Tri} (n : Int) (k : Nat) (w : World) (hu : Trips w u ts) (hb : netB n ts = true) (hk : k < ts.length) :
    Calls Try.prog 19 #[.agg #[.int .i64 n, u], .int .i64 k] w (RetWt 45 w n (lessT ts k)) := by
  have HU := hid hu
  obtain ⟨h64, a, cap, rfl, hcap, hmax, hat⟩ := hu
  have HB := hid hb
  have H64 := hid h64
  have hl := (netB_parts hb).2.1
  have hl20 : (ts.length : Int) ≤ 20 := by omega
  have hk' : (k : Int) < ts.length := by omega
  obtain ⟨i0, hi, hz0, hy1, hz2⟩ := info_parts info_pipe
  have hR : Blq ((w.alloc (.cells #[.int .i64 n, .slice a ts.length cap] 29)).alloc (.cells #[.int .i64 0, .slice none 0 0] 29)) (w.heap.size + 1) #[.int .i64 0, .slice none 0 0] 29 := by have := blq_new (w.alloc (.cells #[.int .i64 n, .slice a ts.length cap] 29)) #[.int .i64 0, .slice none 0 0] 29; simpa using this
  have hA : Blq ((w.alloc (.cells #[.int .i64 n, .slice a ts.length cap] 29)).alloc (.cells #[.int .i64 0, .slice none 0 0] 29)) w.heap.size #[.int .i64 n, .slice a ts.length cap] 29 := (blq_new w _ _).kept (gr_alloc (gr_refl _ none) _) (by simp)
  have HRB := hid hR
  have HAB := hid hA
  clear hb hR hA h64 hat hcap hmax
  go_enter Try.func19, Try.ntmps19
  go_wp2_with fail
  refine (copyNet_any n _ (HU.out.on (gr_alloc (gr_alloc (gr_refl _ _) _) _)) (by omega)).mono ?_
  rintro e w1 ⟨u1, rfl, o1, g1⟩
  obtain ⟨ua, uc, rfl⟩ := sl_ownT o1
  have o1' := OwnT.mono o1 (B' := w.heap.size + 2) (by simp)
  have R1 := hid ((HRB.out.kept g1 (by simp)).kept (gr_alloc (gr_refl w1 none) (.cells #[.int .i64 n, .slice ua ts.length uc] 29)) (by simp))
  have A1 := hid ((HAB.out.kept g1 (by simp)).kept (gr_alloc (gr_refl w1 none) (.cells #[.int .i64 n, .slice ua ts.length uc] 29)) (by simp))
  have D1 := hid (blq_new w1 #[.int .i64 n, .slice ua ts.length uc] 29)
  have O1 := hid (o1'.on (gr_alloc (gr_refl w1 none) (.cells #[.int .i64 n, .slice ua ts.length uc] 29)))
  have G1 := hid (gr_alloc (gr_then (gr_alloc (gr_alloc (gr_refl w none) _) _) g1) (.cells #[.int .i64 n, .slice ua ts.length uc] 29))
  have hz1 : w.heap.size + 2 ≤ w1.heap.size := by have := gr_le g1; simp at this; omega
  clear g1 o1 o1' HRB HAB
  obtain ⟨a0, a1, -, -⟩ := cells2 A1.out
  go_wp2_with fail
  refine (netOk_any _ _ (HU.out.on G1.out)).mono ?_
  rw [HB.out]
  rintro e w2 ⟨rfl, g2⟩
  have R2 := hid (R1.out.kept g2 (by simp))
  have A2 := A1.out.kept g2 (by simp)
  have D2 := D1.out.kept g2 (by simp)
  have O2 := O1.out.on g2
  have G2 := hid (gr_then G1.out g2)
  obtain ⟨b0, b1, -, -⟩ := cells2 A2
  have hin : inB (k : Int) 0 ((ts.length : Int) - 1) = true := inB_mk ⟨by omega, by omega⟩
  have hin' : inB (k : Int) 0 (IntKind.i64.wrap ((ts.length : Int) - 1)) = true := by rw [IntWalk.i64_in _ (by omega)]; exact hin
  obtain ⟨g, rfl⟩ : ∃ g, ua = some ⟨g, 0, none⟩ := by
    rcases Go.Joins.ownsRow_forms O2.2 with ⟨e, hn⟩ | ⟨g, cap, e⟩
    · omega
    · cases e; exact ⟨g, rfl⟩
  obtain ⟨hgl, hgu⟩ := O2.lt g rfl
  have hgD : g ≠ w1.heap.size := fun e => own_ne_blq O2.2 D2 (by decide) (by rw [e]; rfl)
  have hgR : g ≠ w.heap.size + 1 := fun e => own_ne_blq O2.2 R2.out (by decide) (by rw [e]; rfl)
  have huc : ts.length ≤ uc ∧ uc ≤ maxLen := by
    obtain ⟨_, _, _, e, _, _, h1, h2, _⟩ := O2.2.2.resolve_left (by rintro ⟨e, _⟩; cases e)
    cases e; exact ⟨h1, h2⟩
  obtain ⟨hu1, hu2⟩ := huc
  unfold maxLen at hu2
  obtain ⟨d0, d1, f0, f1⟩ := cells2 D2
  have HD2 := hid D2
  have HO2 := hid O2
  clear g2 a0 a1 A1 A2 R1 D1 O1 O2 G1 D2
  generalize w1.heap.size = D at *
  go_wp2_with (go_at_call 23; refine (within_any _ _ _ _).mono ?_; (first | rw [hin] | rw [hin']); rintro e w' ⟨rfl, rfl⟩)
  have hkz : ¬ (k : Int) < 0 := by omega
  have hk1 : ((k : Int) + 1).toNat = k + 1 := by omega
  have hku : (k : Int) ≤ uc := by omega
  have hk1l : (k : Int) + 1 ≤ ts.length := by omega
  have hk0 : (0 : Int) ≤ (k : Int) + 1 := by omega
  have hkw : IntKind.i64.wrap ((k : Int) + 1) = (k : Int) + 1 := IntWalk.i64_in _ (by omega)
  have HFR := hid (own_front k HO2.out.2 (by omega)).drew
  have HBK := hid (own_back' (c' := uc) (k + 1) (HO2.out.2.drew) (by omega))
  have HBD := hid HD2.out
  have HTL := hid (show 1 ≤ ts.length by omega)
  go_region_law (refine step_append_srcC _ (by rfl) _ _ _ (by rfl) (w.heap.size + 2) 45 i0 (.agg #[.int .i64 0, .int .i64 0, .int .i64 0]) 3 24 Try.underlying27 hi hz0 hy1 hz2 (by rfl) (by decide) _ k (tcells (ts.take k)) (by rfl) HFR.out _ (ts.length - (k + 1)) (tcells (ts.drop (k + 1))) (by rfl) HBK.out (by unfold maxLen; omega) (by omega) (by simp; omega) ?_; intro v' w' hown hgrow; have HG' := hid (show Gr w2 w' (some g) from gr_same (gr_drew (gr_refl w2 (some g))) hgrow); obtain ⟨va, vc, rfl⟩ := sl_own' hown; have HOW := hid hown; obtain ⟨-, q1', -, f1'⟩ := cells2 (HBD.out.kept HG'.out (by simp; exact hgD)); clear hown hgrow)
  all_goals (
    have BD := HBD.out.kept HG'.out (by simp; exact hgD)
    have BR := R2.out.kept HG'.out (by simp; exact hgR)
    have hDR : D ≠ w.heap.size + 1 := by omega
    have hlen : k + (ts.length - (k + 1)) = (lessT ts k).length := by rw [lessT_length hk]; omega
    have hT : tcells (ts.take k) ++ tcells (ts.drop (k + 1)) = tcells (lessT ts k) := (tcells_append _ _).symm
    have how := HOW.out
    rw [hlen, hT] at how
    generalize (if uc = k + 1 then some (⟨g, 0, none⟩ : Addr) else some ⟨g, (k + 1) * 3, none⟩) = X1 at *
    rw [hlen]
    have BD1 := blq_s1 BD (.slice va (lessT ts k).length vc)
    have BR1 := blq_other (o := 1) (u := .slice va (lessT ts k).length vc) BR (B' := D) (Ne.symm hDR)
    have ow1 := own_setq how BD (by decide) 1 (.slice va (lessT ts k).length vc)
    have G3 : Gr w (w'.setCell ⟨D, 1, none⟩ (.slice va (lessT ts k).length vc)) none := gr_set (gr_trans G2.out HG'.out (fun j e => by cases e; exact .inr (by omega))) (.inr (by simp; omega)) _
    generalize w'.setCell ⟨D, 1, none⟩ (.slice va (lessT ts k).length vc) = W1 at *
    obtain ⟨q0, q1, -, -⟩ := cells2 BD1
    obtain ⟨_, _, s0, s1⟩ := cells2 BR1
    obtain ⟨m0, m1, -, -⟩ := cells2 (blq_set (x0 := .int .i64 n) (x1 := .slice va (lessT ts k).length vc) BR1)
    have HE : Hid (OwnT 45 ((W1.setCell ⟨w.heap.size + 1, 0, none⟩ (.int .i64 n)).setCell ⟨w.heap.size + 1, 1, none⟩ (.slice va (lessT ts k).length vc)) w.heap.size (.slice va (lessT ts k).length vc) (lessT ts k) ∧ Gr w ((W1.setCell ⟨w.heap.size + 1, 0, none⟩ (.int .i64 n)).setCell ⟨w.heap.size + 1, 1, none⟩ (.slice va (lessT ts k).length vc)) none) :=
      ⟨OwnT.mono (B := w.heap.size + 2) ⟨fun t ht => H64.out t (lessT_mem ht), own_setq (own_setq ow1 BR1 (by decide) _ _) (blq_s0 BR1 _) (by decide) _ _⟩ (by omega), gr_set (gr_set G3 (p := ⟨w.heap.size + 1, 0, none⟩) (.inr (by simp)) _) (p := ⟨w.heap.size + 1, 1, none⟩) (.inr (by simp)) _⟩
    clear how ow1 BD BR BD1 BR1 G3 hT hlen f1' q1' d0 d1 f0 f1
    go_wp2
    exact bodyPost_ret (v := .tuple #[.agg #[.int .i64 n, .slice va (lessT ts k).length vc], .bool true]) (by simp [results, Try.results19, go_sem, m0, m1]) rfl ⟨_, rfl, HE.out⟩)
end Go.Proofs.Ytbkpphcmdjllnaa
