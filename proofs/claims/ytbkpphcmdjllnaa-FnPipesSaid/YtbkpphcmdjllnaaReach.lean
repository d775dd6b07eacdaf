/- Which places a net's pipes reach: walks over sets of bits. -/
import Derived.Test.YtbkpphcmdjllnaaPipesP
import Derived.Test.YtbkpphcmdjllnaaBoxes
namespace Go.Proofs.Ytbkpphcmdjllnaa
open Go.RowKit

theorem bits_or_nat {m k : Nat} (h1 : m < 4611686018427387904) (h2 : k < 4611686018427387904) : bits .or .i64 (m : Int) (k : Int) = ((m ||| k : Nat) : Int) := by
  have e : (BitVec.ofInt 64 (m : Int) ||| BitVec.ofInt 64 (k : Int)).toNat = m ||| k := by
    rw [BitVec.toNat_or]
    simp only [BitVec.ofInt_natCast, BitVec.toNat_ofNat]
    rw [Nat.mod_eq_of_lt (by omega), Nat.mod_eq_of_lt (by omega)]
  have hlt : m ||| k < 4611686018427387904 := Nat.or_lt_two_pow (n := 62) h1 h2
  show IntKind.i64.wrap ((BitVec.ofInt 64 (m : Int) ||| BitVec.ofInt 64 (k : Int)).toNat : Int) = _
  rw [e]
  exact IntWalk.i64_in _ (by omega)
theorem bits_and_one {m : Nat} (h1 : m < 4611686018427387904) : bits .and .i64 (m : Int) 1 = ((m % 2 : Nat) : Int) := by
  have e : (BitVec.ofInt 64 (m : Int) &&& BitVec.ofInt 64 1).toNat = m % 2 := by
    rw [BitVec.toNat_and]
    simp only [BitVec.ofInt_natCast, BitVec.toNat_ofNat]
    rw [Nat.mod_eq_of_lt (by omega)]
    show m &&& 1 = _
    exact Nat.and_one_is_mod m
  show IntKind.i64.wrap ((BitVec.ofInt 64 (m : Int) &&& BitVec.ofInt 64 1).toNat : Int) = _
  rw [e]
  exact IntWalk.i64_in _ (by omega)
theorem set_lt {M n : Nat} (h : ∀ p, M.testBit p = true → p < n) (hn : n ≤ 8) : M < 256 := by
  have : M < 2 ^ 8 := Nat.lt_pow_two_of_testBit M fun i hi => by
    cases hb : M.testBit i
    · rfl
    · have := h i hb; omega
  exact this
theorem inN_net {n : Nat} {ts : List Tri} (hb : netB n ts = true) : InN n ts := fun t ht => by
  obtain ⟨i, hi, rfl⟩ := List.mem_iff_getElem.1 ht
  have := (netB_parts hb).2.2 i hi
  rw [gt_lt hi] at this
  omega
theorem row_lt {n a i k : Nat} {ts : List Tri} {wd : Int} (hb : netB n ts = true) (ha : a < n) (hk : k ≤ ts.length) : rowM ts wd (reachM ts wd a i) k < 256 :=
  set_lt (fun p hp => path_lt (inN_net hb) ha (rowM_path (reachM_path i) k hk p hp)) (by have := (netB_parts hb).1; omega)
theorem pow_fix {a : Nat} (h : a < 8) : wrap64 ((2 : Int) ^ a) = ((2 ^ a : Nat) : Int) := by
  have : a = 0 ∨ a = 1 ∨ a = 2 ∨ a = 3 ∨ a = 4 ∨ a = 5 ∨ a = 6 ∨ a = 7 := by omega
  rcases this with rfl | rfl | rfl | rfl | rfl | rfl | rfl | rfl <;> first | rfl | (simp [wrap64]; done) | exact IntWalk.i64_in _ (by omega)
theorem bit_fact {M f : Nat} (h : M < 256) : (bits .and .i64 ((M : Int) / 2 ^ f) 1 == 1) = M.testBit f := by
  have e : (M : Int) / 2 ^ f = ((M / 2 ^ f : Nat) : Int) := by rw [Int.natCast_ediv, Int.natCast_pow]; rfl
  have hl : M / 2 ^ f < 4611686018427387904 := Nat.lt_of_le_of_lt (Nat.div_le_self _ _) (by omega)
  rw [e, bits_and_one hl, Nat.testBit_eq_decide_div_mod_eq]
  have := Nat.mod_two_eq_zero_or_one (M / 2 ^ f)
  rcases this with h | h <;> rw [h] <;> rfl
theorem or_fact {M t : Nat} (h : M < 256) (ht : t < 8) : bits .or .i64 (M : Int) (wrap64 ((2 : Int) ^ t)) = ((M ||| 2 ^ t : Nat) : Int) := by
  rw [pow_fix ht]
  exact bits_or_nat (by omega) (Nat.lt_of_lt_of_le (Nat.pow_lt_pow_right (by omega) ht) (by decide))
theorem reach_any {u : Value} {ts : List Tri} (n a : Nat) (wd : Int) (w : World) (hu : Trips w u ts) (hb : netB n ts = true) (ha : a < n) :
    Calls Try.prog 30 #[.agg #[.int .i64 n, u], .int .i64 a, .int .i64 wd] w fun e w' => e = .returned (.int .i64 (reachM ts wd a n)) ∧ Gr w w' none := by
  have HU := hid hu
  obtain ⟨_, sa, cap, rfl, hcap, hmax, hat⟩ := hu
  unfold maxLen at hmax
  obtain ⟨⟨hn2, hn8⟩, hl, hx⟩ := netB_parts hb
  have HX := hid hx
  have hl20 : (ts.length : Int) ≤ 20 := by omega
  clear hx
  have hsh := pow_fix (show a < 8 by omega)
  have HB := hid hb
  clear hb
  go_enter Try.func30, Try.ntmps30
  go_wp2_with fail
  go_loopw [7, 8, 10] (fun m i _ wr => ∃ k : Nat, k ≤ n ∧ i = .int .i64 k ∧ m = .int .i64 (reachM ts wd a k : Nat) ∧ wr.cell? ⟨w.heap.size, 0, none⟩ = some (.int .i64 n) ∧ wr.cell? ⟨w.heap.size, 1, none⟩ = some (.slice sa ts.length cap) ∧ Gr w wr none) (fun _ i _ _ => n - (intOf i).toNat)
  case atStart => exact ⟨0, Nat.zero_le _, rfl, by rw [hsh]; rfl, by simp [go_sem], by simp [go_sem], gr_alloc (gr_refl _ _) _⟩
  case round =>
    obtain ⟨k, hk, rfl, rfl, c0, c1, hg⟩ := hrel
    have hz := gr_le hg
    have hzb : w.heap.size < wr.heap.size := World.block_lt_of_cell? wr _ c0
    by_cases hlt : k < n
    · have hlt' : (k : Int) < n := by omega
      go_wp2_with fail
      go_loopw [7, 10, 22] (fun m _ i wr => ∃ j : Nat, j ≤ ts.length ∧ i = .int .i64 j ∧ m = .int .i64 (rowM ts wd (reachM ts wd a k) j : Nat) ∧ wr.cell? ⟨w.heap.size, 0, none⟩ = some (.int .i64 n) ∧ wr.cell? ⟨w.heap.size, 1, none⟩ = some (.slice sa ts.length cap) ∧ Gr w wr none) (fun _ _ i _ => ts.length - (intOf i).toNat)
      case atStart => exact ⟨0, Nat.zero_le _, rfl, rfl, c0, c1, hg⟩
      case round =>
        clear c0 c1 hg hz hzb
        obtain ⟨j, hj, rfl, rfl, c0, c1, hg⟩ := hrel
        have hzb : w.heap.size < wr.heap.size := World.block_lt_of_cell? wr _ c0
        have hM := row_lt (wd := wd) (i := k) HB.out ha hj
        by_cases hlt2 : j < ts.length
        · have hlt2' : (j : Int) < ts.length := by omega
          obtain ⟨b, off, rfl, hc⟩ : ∃ b off, sa = some ⟨b, off, none⟩ ∧ TripsAt w b off ts := by
            rcases hat with h0 | h0
            · subst h0; simp at hlt2
            · exact h0
          obtain ⟨t1, t2, t3⟩ := (hc.kept hg (by simp)) j hlt2
          obtain ⟨⟨x1, x2⟩, ⟨x3, x4⟩, -, x5, x6⟩ := HX.out j hlt2
          have E : Hid (rowM ts wd (reachM ts wd a k) (j + 1) = stepM wd (rowM ts wd (reachM ts wd a k) j) (gt ts j)) := rfl
          generalize rowM ts wd (reachM ts wd a k) j = M at hM E ⊢
          generalize gt ts j = T at *
          obtain ⟨f, t, d⟩ := T
          dsimp only at *
          obtain ⟨f, rfl⟩ := Int.eq_ofNat_of_zero_le x1
          obtain ⟨t, rfl⟩ := Int.eq_ofNat_of_zero_le x3
          clear hc hat
          have hor := or_fact (t := t) hM (by omega)
          by_cases hd : wd ≤ d
          · cases hbit : M.testBit f
            · have hb1 : (bits .and .i64 ((M : Int) / 2 ^ f) 1 == 1) = false := (bit_fact hM).trans hbit
              have HE : Hid (stepM wd M ((f : Int), (t : Int), d) = M) := by show _ = _; rw [stepM, if_neg]; simp [hbit]
              rw [HE.out] at E
              clear hbit hor HE
              go_wp2
              go_roundw
              case rel => exact ⟨j + 1, by omega, by go_num, by rw [E.out], by simpa [go_sem] using cell_on (gr_alloc (gr_refl _ _) _) c0, by simpa [go_sem] using cell_on (gr_alloc (gr_refl _ _) _) c1, gr_alloc hg _⟩
              case measure => simp [intOf]; omega
            · have hb1 : (bits .and .i64 ((M : Int) / 2 ^ f) 1 == 1) = true := (bit_fact hM).trans hbit
              have HE : Hid (stepM wd M ((f : Int), (t : Int), d) = M ||| 2 ^ t) := by show _ = _; rw [stepM, if_pos ⟨hd, by simpa using hbit⟩]; simp
              have HOR := hid hor
              rw [HE.out] at E
              clear hbit hor HE
              go_wp2
              go_roundw
              case rel => exact ⟨j + 1, by omega, by go_num, by rw [HOR.out, E.out], by simpa [go_sem] using cell_on (gr_alloc (gr_refl _ _) _) c0, by simpa [go_sem] using cell_on (gr_alloc (gr_refl _ _) _) c1, gr_alloc hg _⟩
              case measure => simp [intOf]; omega
          · have HE : Hid (stepM wd M ((f : Int), (t : Int), d) = M) := by show _ = _; rw [stepM, if_neg]; simp; omega
            have hd' : d < wd := by omega
            rw [HE.out] at E
            clear hor HE
            go_wp2
            go_roundw
            case rel => exact ⟨j + 1, by omega, by go_num, by rw [E.out], by simpa [go_sem] using cell_on (gr_alloc (gr_refl _ _) _) c0, by simpa [go_sem] using cell_on (gr_alloc (gr_refl _ _) _) c1, gr_alloc hg _⟩
            case measure => simp [intOf]; omega
        · have hjl : j = ts.length := by omega
          subst hjl
          go_wp2
          go_roundw
          case rel => exact ⟨k + 1, by omega, by go_num, rfl, c0, c1, hg⟩
          case measure => simp [intOf]; omega
    · have hkn : k = n := by omega
      subst hkn
      clear hat
      go_wp2
      go_ret
      exact ⟨rfl, hg⟩
end Go.Proofs.Ytbkpphcmdjllnaa
