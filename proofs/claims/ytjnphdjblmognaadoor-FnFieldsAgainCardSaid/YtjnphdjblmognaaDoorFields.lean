/- The drawn line of fields, and the helpers of its law. -/
import Derived.Test.YtjnphdjblmognaaDoorFieldsP
import Derived.Test.YtjnphdjblmognaaDoorDrawTxt
import Derived.Test.YtjnphdjblmognaaDoorItoa
import Derived.Deep.DeepCutAuto
namespace Go.Proofs.YtjnphdjblmognaaDoor
open Go.RowKit

theorem sameTexts_any {u v : Value} {xs ys : List ByteArray} (w : World) (hu : Strs w u xs) (hv : Strs w v ys) :
    Calls Tryd.prog 20 #[u, v] w fun e w' => e = .returned (.bool (decide (xs = ys))) ∧ Gr w w' none := by
  obtain ⟨a, cap, rfl, hcap, hmax, hat⟩ := hu
  obtain ⟨a', cap', rfl, hcap', hmax', hat'⟩ := hv
  unfold maxLen at hmax hmax'
  by_cases hl : xs.length = ys.length
  · have HL := hid hl
    have hlb : ((xs.length : Int) != (ys.length : Int)) = false := by rw [hl]; simp
    clear hl
    go_enter Tryd.func20, Tryd.ntmps20
    go_wp2
    go_loopw [5] (fun i wr => ∃ k : Nat, k ≤ xs.length ∧ i = .int .i64 k ∧ EqSTo xs ys k ∧ Gr w wr none) (fun i _ => xs.length - (intOf i).toNat)
    case atStart => exact ⟨0, Nat.zero_le _, rfl, eqSTo_zero _ _, gr_refl _ _⟩
    case round =>
      obtain ⟨k, hk, rfl, heq, hg⟩ := hrel
      have HE := hid heq
      clear heq
      by_cases hlt : k < xs.length
      · have hlt' : k < ys.length := by have := HL.out; omega
        obtain ⟨b, off, rfl, hc⟩ : ∃ b off, a = some ⟨b, off, none⟩ ∧ StrsAt w b off xs := by
          rcases hat with h0 | h0
          · subst h0; simp at hlt
          · exact h0
        obtain ⟨b', off', rfl, hc'⟩ : ∃ b off, a' = some ⟨b, off, none⟩ ∧ StrsAt w b off ys := by
          rcases hat' with h0 | h0
          · subst h0; simp at hlt'
          · exact h0
        have hcell := (hc.kept hg (by simp)) k hlt
        have hcell' := (hc'.kept hg (by simp)) k hlt'
        have h1 : (k : Int) < (xs.length : Int) := by omega
        have h2 : (k : Int) < (ys.length : Int) := by omega
        have h3 : (0 : Int) ≤ (k : Int) := by omega
        clear hc hc' hat hat'
        go_wp2_with fail
        by_cases hq : gs xs k = gs ys k
        · have HQ := hid hq
          rw [← hq] at hcell'
          generalize hX : gs xs k = X at *
          have HX := hid hX
          clear hq hX
          go_quiet (fail)
          go_wp2
          go_roundw
          case rel => exact ⟨k + 1, by omega, by go_num, eqSTo_succ HE.out (by rw [HX.out]; exact HQ.out), gr_drewN hg _⟩
          case measure => simp [intOf]; omega
        · have HQ := hid hq
          have hqb := str_ne hq
          clear hq
          go_quiet (fail)
          go_wp2
          go_ret
          exact ⟨ret_bool (eqS_no HQ.out).symm, gr_drewN hg _⟩
      · have hkl : k = xs.length := by omega
        subst hkl
        clear hat hat'
        go_wp2
        go_ret
        exact ⟨ret_bool (eqSTo_all HL.out HE.out).symm, hg⟩
  · have HL := hid hl
    have hlb : ((xs.length : Int) != (ys.length : Int)) = true := by simp; omega
    clear hl
    go_enter Tryd.func20, Tryd.ntmps20
    go_wp2
    go_ret
    exact ⟨ret_bool (eqS_no_len HL.out).symm, gr_refl _ _⟩
def RetMS (T : TypeId) (w : World) (C : Nat) (xs : List ByteArray) (e : Ending) (w' : World) : Prop := ∃ x : ByteArray, x ∈ xs ∧ e = .returned (.string x) ∧ Cur T w' C ∧ Gr w w' (some C)
theorem l01Pick_any {C : Nat} {v : Value} {xs : List ByteArray} (w : World) (h : Cur 47 w C) (hx : Strs w v xs) (h1 : 1 ≤ xs.length) (h2 : xs.length ≤ 100) (hb : v.ownBlock ≠ some C) :
    Calls Tryd.prog 29 #[.pointer (some ⟨C, 0, none⟩), v] w (RetMS 47 w C xs) := by
  have HX := hid hx
  obtain ⟨a, cap, rfl, hcap, hmax, hat⟩ := hx
  unfold maxLen at hmax
  obtain ⟨b, off, rfl, hc⟩ : ∃ b off, a = some ⟨b, off, none⟩ ∧ StrsAt w b off xs := by
    rcases hat with h0 | h0
    · subst h0; simp at h1
    · exact h0
  have HC := hid hc
  clear hc hat
  go_enter Tryd.func29, Tryd.ntmps29
  go_wp2_with fail
  refine (l01Below_any _ _ h (by omega) (by omega)).mono ?_
  rintro e w1 ⟨x, x1, x2, rfl, hc, hg⟩
  obtain ⟨k, rfl⟩ := Int.eq_ofNat_of_zero_le x1
  have hlt : k < xs.length := by omega
  have hcell := HC.out.kept hg (fun e => hb (by rw [e]; rfl)) k hlt
  have HM := hid (gs_mem hlt)
  clear hb
  go_wp2
  go_ret
  exact ⟨_, HM.out, rfl, hc, hg⟩
/-- A literal list, as the slice that it makes. -/
theorem strs_lit (w : World) (xs : List ByteArray) (hl : xs.length ≤ 1000) :
    Strs (w.alloc (.cells (xs.map Value.string).toArray 9)) (.slice (some ⟨w.heap.size, 0, none⟩) xs.length xs.length) xs := by
  have h := World.ownsRow_lit (base := w.heap.size) (size := 1) (e := 9) w (xs.map Value.string).toArray xs.length (Nat.le_refl _) (by unfold maxLen; omega) (by simp)
  exact OwnS.strs (E := 9) (B := w.heap.size) (by unfold OwnS; simpa using h)
def sixS : List ByteArray := [⟨#[32]⟩, ⟨#[32, 32]⟩, ⟨#[9]⟩, ⟨#[10]⟩, ⟨#[127]⟩, ⟨#[233]⟩]
theorem sixS_size {x : ByteArray} (h : x ∈ sixS) : x.size ≤ 2 := by
  simp [sixS] at h; rcases h with rfl | rfl | rfl | rfl | rfl | rfl <;> decide
theorem long_any (x m : Int) (w : World) (h0 : 0 ≤ m) (hn : m ≤ 100000) : Calls Tryd.prog 23 #[.int .i64 m, .int .u8 x] w fun e w' => (∃ t : ByteArray, e = .returned (.string t) ∧ (t.size : Int) = m) ∧ Gr w w' none := by
  obtain ⟨n, rfl⟩ := Int.eq_ofNat_of_zero_le h0
  refine (l01Long_any x n w (by omega)).mono ?_
  rintro e w' ⟨rfl, g⟩
  exact ⟨⟨_, rfl, by rw [strOfNums_size, fillTo_length]⟩, g⟩
theorem str_lit1 (w : World) (x : Int) : (convert 22 9 (.slice (some ⟨w.heap.size, 0, none⟩) 1 1)).run Tryd.prog (w.alloc (.cells #[.int .u8 x] 5)) = .ok (.string (strOfNums [x])) (w.alloc (.cells #[.int .u8 x] 5)) :=
  str_own (xs := [x]) (by simpa using World.ownsRow_lit (base := w.heap.size) (size := 1) (e := 5) w ([Value.int .u8 x]).toArray 1 (Nat.le_refl _) (by unfold maxLen; omega) (by simp)) rfl
theorem mul_bd {a b : Int} (a0 : 0 ≤ a) (a1 : a ≤ 1) (b0 : 0 ≤ b) (b1 : b ≤ 2) : 0 ≤ a * b ∧ a * b ≤ 2 := by
  rcases (by omega : a = 0 ∨ a = 1) with rfl | rfl <;> omega
def RetStrA (w : World) (e : Ending) (w' : World) : Prop := ∃ tb : ByteArray, e = .returned (.string tb) ∧ Gr w w' none
set_option maxRecDepth 100000 in
theorem drawSplitFields_any {v : Value} {n : Nat} (w : World) (h : BytesN w v n) (hn : n ≤ 1048576) : Calls Tryd.prog 17 #[v] w (RetStrA w) := by
  go_enter Tryd.func17, Tryd.ntmps17
  go_wp2_with fail
  refine (l01New_any _ h hn).mono ?_
  rintro e w1 ⟨C, hC, rfl, hc1, g1⟩
  have GN : Hid (∀ w', Gr w1 w' (some C) → Gr w w' none) := fun w' g => gr_trans g1 g (fun j e => by cases e; exact .inr hC)
  clear g1 h
  go_wp2_with fail
  refine (l01Below_any _ _ hc1 (by omega) (by omega)).mono ?_
  rintro e w2 ⟨m1, m0, m2, rfl, hc2, g2⟩
  go_wp2_with fail
  refine (l01Once_any _ _ hc2 (by omega) (by omega)).mono ?_
  rintro e w3 ⟨q, rfl, hc3, g3⟩
  have G3 := hid (gr_same g2 g3)
  have HC3 := hid hc3
  clear g2 hc2 hc1 g3 hc3
  go_upto_if 13 with fail
  go_cut [4] (fun mv wr => ∃ m : Nat, mv = .int .i64 m ∧ m ≤ 25 ∧ Cur 47 wr C ∧ Gr w1 wr (some C))
  case first =>
    cases q
    · obtain ⟨k, rfl⟩ := Int.eq_ofNat_of_zero_le m0
      go_wp2
      go_meet
      exact ⟨k, rfl, by omega, HC3.out, G3.out⟩
    · go_wp2_with fail
      refine (l01Below_any _ _ HC3.out (by omega) (by omega)).mono ?_
      rintro e w4 ⟨x, x0, x1, rfl, hc4, g4⟩
      have G4 := hid (gr_same G3.out g4)
      have HC4 := hid hc4
      clear g4 hc4
      obtain ⟨k, rfl⟩ := Int.eq_ofNat_of_zero_le x0
      go_wp2
      go_meet
      exact ⟨24 + k, by simp, by omega, HC4.out, G4.out⟩
  case rest =>
    obtain ⟨m, rfl, hm, hcm, gm⟩ := hcut
    have HCM := hid hcm
    have GM := hid gm
    clear hcm gm HC3 G3 m0 m2
    go_wp2_with fail
    go_loopw [5, 6, 7] (fun s i kk wr => ∃ (k : Int) (tb : ByteArray), i = .int .i64 k ∧ s = .string tb ∧ 0 ≤ k ∧ k ≤ m ∧ (tb.size : Int) ≤ 8 * k ∧ Cur 47 wr C ∧ Gr w1 wr (some C)) (fun _ i _ _ => m - (intOf i).toNat)
    case atStart => exact ⟨0, ByteArray.empty, rfl, rfl, by omega, by omega, by simp, HCM.out, GM.out⟩
    case round =>
      obtain ⟨k, tb, rfl, rfl, hk0, hk, hz, hcr, gr⟩ := hrel
      have HCR := hid hcr
      have GR := hid gr
      clear hcr gr
      by_cases hlt : k < (m : Int)
      · have hm25 : (m : Int) ≤ 25 := by omega
        go_upto_region 9 with fail
        go_cut [27] (fun q wx => ∃ b : Bool, q = .bool b ∧ Cur 47 wx C ∧ Gr w1 wx (some C))
        case first =>
          by_cases hkp : 0 < k
          · go_wp2
            go_meet
            exact ⟨_, rfl, HCR.out, GR.out⟩
          · go_wp2_with fail
            refine (l01Once_any _ _ HCR.out (by omega) (by omega)).mono ?_
            rintro e w4 ⟨q, rfl, hc4, g4⟩
            have G4 := hid (gr_same GR.out g4)
            have HC4 := hid hc4
            clear g4 hc4
            go_wp2
            go_meet
            exact ⟨_, rfl, HC4.out, G4.out⟩
        case rest =>
          obtain ⟨b, rfl, hcx, gx⟩ := hcut
          have HCX := hid hcx
          have GX := hid gx
          clear hcx gx HCR GR
          go_upto_if 27 with fail
          go_cut [5] (fun s wx => ∃ tx : ByteArray, s = .string tx ∧ (tx.size : Int) ≤ 8 * k + 3 ∧ Cur 47 wx C ∧ Gr w1 wx (some C))
          case first =>
            cases b
            · go_wp2
              go_meet
              exact ⟨_, rfl, by omega, HCX.out, GX.out⟩
            · go_wp2_with fail
              refine (l01Below_any _ _ HCX.out (by omega) (by omega)).mono ?_
              rintro e w4 ⟨x, x0, x1, rfl, hc4, g4⟩
              have G4 := hid (gr_same GX.out g4)
              clear g4
              go_wp2_with fail
              refine (l01Below_any _ _ hc4 (by omega) (by omega)).mono ?_
              rintro e w5 ⟨y, y0, y1, rfl, hc5, g5⟩
              have G5 := hid (gr_same G4.out g5)
              have HC5 := hid hc5
              have HP := mul_bd x0 (by omega : x ≤ 1) y0 (by omega : y ≤ 2)
              clear g5 hc5 hc4
              have hp0 := HP.1
              have hp2 := HP.2
              have q1 : IntKind.i64.wrap (x * y) = x * y := IntWalk.i64_in _ (by omega)
              have q2 : IntKind.i64.wrap (1 + x * y) = 1 + x * y := IntWalk.i64_in _ (by omega)
              clear HP
              go_wp2_with fail
              refine (long_any 32 (1 + x * y) _ (by omega) (by omega)).mono ?_
              rintro e w6 ⟨⟨t, rfl, ht⟩, g6⟩
              have G6 := hid (gr_same G5.out (gr_mono g6))
              have HC6 := hid (HC5.out.on g6)
              have hs1 : tb.size ≤ 200 := by omega
              have hs2 : t.size ≤ 3 := by omega
              have HZ : Hid (((tb ++ t).size : Int) ≤ 8 * k + 3) := by show _ ≤ _; rw [ByteArray.size_append]; omega
              clear g6
              go_wp2
              go_meet
              exact ⟨_, rfl, HZ.out, HC6.out, G6.out⟩
          case rest =>
            obtain ⟨tx, rfl, hx, hcx, gx⟩ := hcut
            have HCY := hid hcx
            have GY := hid gx
            clear hcx gx HCX GX
            go_wp2_with fail
            go_loopw [5, 7] (fun s kk wr => ∃ (j : Nat) (ty : ByteArray), kk = .int .i64 j ∧ s = .string ty ∧ j ≤ 5 ∧ (ty.size : Int) ≤ 8 * k + 3 + j ∧ Cur 47 wr C ∧ Gr w1 wr (some C)) (fun _ i _ => 5 - (intOf i).toNat)
            case atStart => exact ⟨0, tx, rfl, rfl, by omega, by omega, HCY.out, GY.out⟩
            case round =>
              obtain ⟨j, ty, rfl, rfl, hj, hy, hcz, gz⟩ := hrel
              have GZ := hid gz
              clear gz HCY GY
              go_wp2_with fail
              refine (l01Below_any _ _ hcz (by omega) (by omega)).mono ?_
              rintro e w4 ⟨x, x0, x1, rfl, hc4, g4⟩
              have G4 := hid (gr_same GZ.out g4)
              clear g4 GZ hcz
              by_cases hjx : (j : Int) ≤ x
              · go_wp2_with fail
                refine (l01Below_any _ _ hc4 (by omega) (by omega)).mono ?_
                rintro e w5 ⟨y, y0, y1, rfl, hc5, g5⟩
                have G5 := hid (gr_same G4.out g5)
                have HC5 := hid hc5
                clear g5 hc5 hc4 G4
                have hmod : IntKind.u8.wrap (33 + y) = 33 + y := u8_in ⟨by omega, by omega⟩
                have q1 : IntKind.i64.wrap (33 + y) = 33 + y := IntWalk.i64_in _ (by omega)
                have hcv := str_lit1 w5 (33 + y)
                have hss : (strOfNums [33 + y]).size = 1 := by simp [strOfNums_size]
                have hs1 : ty.size ≤ 220 := by omega
                have HZ : Hid (((ty ++ strOfNums [33 + y]).size : Int) ≤ 8 * k + 3 + ((j + 1 : Nat) : Int)) := by show _ ≤ _; rw [ByteArray.size_append, hss]; omega
                have G6 := hid (gr_alloc G5.out (.cells #[.int .u8 (33 + y)] 5))
                have HC6 := hid (HC5.out.on (gr_alloc (gr_refl _ _) (.cells #[.int .u8 (33 + y)] 5)))
                go_wp2
                go_roundw
                case rel => exact ⟨j + 1, _, by go_num, rfl, by omega, HZ.out, HC6.out, G6.out⟩
                case measure => simp [intOf]; omega
              · have HC4 := hid hc4
                clear hc4
                go_wp2
                go_roundw
                case rel => exact ⟨k + 1, ty, by go_num, rfl, by omega, by omega, by omega, HC4.out, G4.out⟩
                case measure => simp [intOf]; omega
      · have hz2 : (tb.size : Int) ≤ 200 := by omega
        have hz3 : (tb.size : Int) < 600 := by omega
        clear hz HCM GM
        go_wp2_with fail
        refine (l01Below_any _ _ HCR.out (by omega) (by omega)).mono ?_
        rintro e w4 ⟨z, z0, z1, rfl, hc4, g4⟩
        have G4 := hid (gr_same GR.out g4)
        have HC4 := hid hc4
        clear g4 hc4 HCR GR
        by_cases hZ0 : z = 0
        · subst hZ0
          have hP : Strs (w4.alloc (.cells #[.string ⟨#[32]⟩, .string ⟨#[32, 32]⟩, .string ⟨#[9]⟩, .string ⟨#[10]⟩, .string ⟨#[127]⟩, .string ⟨#[233]⟩] 9)) (.slice (some ⟨w4.heap.size, 0, none⟩) 6 6) sixS := strs_lit w4 sixS (by decide)
          have HP := hid hP
          clear hP
          have HC5 := hid (HC4.out.on (gr_alloc (gr_refl _ _) (.cells #[.string ⟨#[32]⟩, .string ⟨#[32, 32]⟩, .string ⟨#[9]⟩, .string ⟨#[10]⟩, .string ⟨#[127]⟩, .string ⟨#[233]⟩] 9)))
          have G5 := hid (gr_alloc G4.out (.cells #[.string ⟨#[32]⟩, .string ⟨#[32, 32]⟩, .string ⟨#[9]⟩, .string ⟨#[10]⟩, .string ⟨#[127]⟩, .string ⟨#[233]⟩] 9))
          have hCl := HC4.out.lt
          go_wp2_with fail
          refine (l01Pick_any _ HC5.out HP.out (by decide) (by decide) (by simp [Value.ownBlock]; omega)).mono ?_
          rintro e w5 ⟨x, hx, rfl, hc5, g5⟩
          have hxs := sixS_size hx
          have G6 := hid (GN.out _ (gr_same G5.out g5))
          clear hx hc5 g5 HP HC5
          go_wp2
          go_ret
          exact ⟨_, rfl, G6.out⟩
        · have e0 : (z == 0) = false := by simpa using hZ0
          by_cases hZ1 : z = 1
          · subst hZ1
            go_wp2_with fail
            refine (l01Below_any _ _ HC4.out (by omega) (by omega)).mono ?_
            rintro e w5 ⟨x, x0, x1, rfl, hc5, g5⟩
            have G5 := hid (gr_same G4.out g5)
            clear g5 hc5
            go_wp2_with fail
            refine (long_any 32 (600 - (tb.size : Int) + x) _ (by omega) (by omega)).mono ?_
            rintro e w6 ⟨⟨t, rfl, ht⟩, g6⟩
            have G6 := hid (GN.out _ (gr_same G5.out (gr_mono g6)))
            have hs1 : tb.size ≤ 200 := by omega
            have hs2 : t.size ≤ 601 := by omega
            clear g6 ht
            go_wp2
            go_ret
            exact ⟨_, rfl, G6.out⟩
          · have e1 : (z == 1) = false := by simpa using hZ1
            have G5 := hid (GN.out _ G4.out)
            go_wp2
            go_ret
            exact ⟨_, rfl, G5.out⟩
end Go.Proofs.YtjnphdjblmognaaDoor
