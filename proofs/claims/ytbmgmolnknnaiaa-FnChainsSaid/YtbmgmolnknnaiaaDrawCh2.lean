/- The drawn chain, walked. -/
import Derived.Test.YtbmgmolnknnaiaaDrawCh
namespace Go.Proofs.Ytbmgmolnknnaiaa
open Go.RowKit

def RetDC (PT IT CT : TypeId) (w : World) (C : Nat) (e : Ending) (w' : World) : Prop := ∃ u v ps xs, e = .returned (.agg #[u, v]) ∧ chainB ps xs = true ∧ ps.length ≤ 6 ∧ OwnP PT w' w.heap.size u ps ∧ OwnI IT w' w.heap.size v xs ∧ Cur CT w' C ∧ Gr w w' (some C)
theorem i64_sc {ps : List (Int × Int)} (h : ∀ q ∈ ps, SmallC q) : ∀ x ∈ ps, I64 x.1 ∧ I64 x.2 := fun x hx => by have := h x hx; unfold SmallC at this; unfold I64; omega
theorem i64_up {xs : List Int} {n : Int} (h : UpTo xs n) (hn : n ≤ 100) : ∀ x ∈ xs, I64 x := fun x hx => by
  obtain ⟨i, hi, rfl⟩ := List.mem_iff_getElem.1 hx
  have := h i hi
  rw [gi_lt hi] at this
  unfold I64; omega
set_option maxHeartbeats 1000000 in
theorem l05Chain_any {C : Nat} (w : World) (h : Cur 63 w C) : Calls Try.prog 32 #[.pointer (some ⟨C, 0, none⟩)] w (RetDC 24 3 63 w C) := by
  have hC := h.lt
  obtain ⟨i0, hi, hz0, hz1, hz2⟩ := info_parts info_cist
  obtain ⟨i1, hi', hy0, hy1, hy2⟩ := info_parts info_int
  have D0 : DInv 24 3 41 63 w C (.slice none 0 0) (.slice none 0 0) 0 0 [] [] ((w.alloc (.cells #[.slice none 0 0, .slice none 0 0] 41)).alloc (.cells #[.slice none 0 0, .slice none 0 0] 41)) :=
    ⟨World.ownsRow_nil _ _ _ _, World.ownsRow_nil _ _ _ _, by have := blq_new (w.alloc (.cells #[.slice none 0 0, .slice none 0 0] 41)) #[.slice none 0 0, .slice none 0 0] 41; simpa using this, (blq_new w _ _).kept (gr_alloc (gr_refl _ none) _) (by simp), (h.on (gr_alloc (gr_refl _ _) _)).on (gr_alloc (gr_refl _ _) _), gr_alloc (gr_alloc (gr_refl _ _) _) _⟩
  have HD0 := hid D0
  clear h D0
  go_enter Try.func32, Try.ntmps32
  go_wp2_with fail
  refine (l01Below_any _ _ HD0.out.cur (by omega) (by omega)).mono ?_
  rintro e w1 ⟨m, m1, m2, rfl, hc1, g1⟩
  obtain ⟨m, rfl⟩ := Int.eq_ofNat_of_zero_le m1
  have HD1 := hid (HD0.out.draw g1 hc1 hC)
  clear HD0 hc1 g1
  go_wp2_with fail
  go_loopw [5, 6, 7] (fun i p nx wr => ∃ (k : Nat) (ps : List (Int × Int)) (xs : List Int) (u v : Value), k ≤ m + 1 ∧ i = .int .i64 k ∧ ps.length = k ∧ xs.length = k ∧ (∀ q ∈ ps, SmallC q) ∧ UpTo xs (m + 1) ∧ DInv 24 3 41 63 w C u v k k (pcells ps) (xs.map (Value.int .i64)) wr) (fun i _ _ _ => m + 1 - (intOf i).toNat)
  case atStart => exact ⟨0, [], [], _, _, by omega, rfl, rfl, rfl, by simp, fun i h => absurd h (by simp), HD1.out⟩
  case round =>
    obtain ⟨k, ps, xs, u, v, hk, rfl, hlp, hlx, hsm, hup, hD⟩ := hrel
    obtain ⟨ua, uc, rfl⟩ := sl_own hD.op
    obtain ⟨va, vc, rfl⟩ := sl_own hD.ov
    have HLP := hid hlp
    have HLX := hid hlx
    have HSM := hid hsm
    have HUP := hid hup
    have HD := hid hD
    clear hlp hlx hsm hup hD HD1
    by_cases hlt : k < m + 1
    · have hlt' : (k : Int) < 1 + m := by omega
      go_wp2_with fail
      refine (l04Cistern_any _ HD.out.cur).mono ?_
      rintro e w3 ⟨r, l, rfl, hr, hl, hc3, g3⟩
      have HD3 := hid (HD.out.draw g3 hc3 hC)
      have hz3 : w.heap.size + 1 < w3.heap.size := HD3.out.box.lt
      have HD3a := hid ((HD3.out.al (.cells #[.int .i64 r, .int .i64 l] 24)).al (.cells #[.int .i64 r, .int .i64 l] 24))
      have HSC := hid (show SmallC (r, l) from ⟨hr, hl⟩)
      obtain ⟨q0, q1, -⟩ := cells2 HD3.out.box
      clear HD hc3 g3
      go_wp2_with (at_builtin; refine wpList_append_own _ rfl _ _ 38 rfl w.heap.size 24 i0 (.agg #[.int .i64 0, .int .i64 0]) 2 16 Try.underlying38 hi hz0 hz1 hz2 rfl (by decide) _ _ _ rfl HD3a.out.op ⟨w3.heap.size + 1, 0, none⟩ 1 1 [.int .i64 r, .int .i64 l] rfl rfl (by have := new_pair (w3.alloc (.cells #[.int .i64 r, .int .i64 l] 24)) (.int .i64 r) (.int .i64 l) 24; simpa using this) (two_int _ _) (by unfold maxLen; omega) (by omega) (by simp; omega) ?_)
      intro u' w4 hown' hgrow _
      obtain ⟨ua', uc', rfl⟩ := sl_own hown'
      obtain ⟨hb4, hd4⟩ := HD3a.out.app1 hC (by decide) (by decide) (by decide) hown' hgrow
      obtain ⟨p0, p1, f0, f1⟩ := cells2 hb4
      have HD4 := hid hd4
      clear hown' hgrow hb4 hd4 HD3 HD3a q0 q1
      go_wp2_with fail
      refine (l01Below_any _ _ HD4.out.cur (by omega) (by omega)).mono ?_
      rintro e w5 ⟨x, x0, x1, rfl, hc5, g5⟩
      have HD5 := hid (HD4.out.draw g5 hc5 hC)
      clear HD4 hc5 g5 p0 p1 f0 f1
      go_upto_region 9 with fail
      go_cut [36] (fun q wx => ∃ b : Bool, q = .bool b ∧ (b = false → (k : Int) + 1 + x < 1 + m) ∧ DInv 24 3 41 63 w C (.slice ua' (k + 1) uc') (.slice va k vc) (k + 1) k (pcells ps ++ [.int .i64 r, .int .i64 l]) (xs.map (Value.int .i64)) wx)
      case first =>
        by_cases hge : 1 + (m : Int) ≤ (k : Int) + 1 + x
        · go_wp2
          go_meet
          exact ⟨true, rfl, by simp, HD5.out⟩
        · go_wp2_with fail
          refine (l01Once_any _ _ HD5.out.cur (by omega) (by omega)).mono ?_
          rintro e w6 ⟨q, rfl, hc6, g6⟩
          have HD6 := hid (HD5.out.draw g6 hc6 hC)
          clear hc6 g6
          go_wp2
          go_meet
          exact ⟨q, rfl, fun _ => by omega, HD6.out⟩
      case rest =>
        obtain ⟨b, rfl, hb, hd6⟩ := hcut
        have HD6 := hid hd6
        have HB := hid hb
        clear hd6 hb HD5
        go_upto_if 36 with fail
        go_cut [7] (fun nx wx => ∃ z : Int, nx = .int .i64 z ∧ (z = -1 ∨ ((k : Int) < z ∧ z < 1 + m)) ∧ DInv 24 3 41 63 w C (.slice ua' (k + 1) uc') (.slice va k vc) (k + 1) k (pcells ps ++ [.int .i64 r, .int .i64 l]) (xs.map (Value.int .i64)) wx)
        case first =>
          cases b
          · go_wp2
            go_meet
            exact ⟨_, rfl, .inr (by have := HB.out trivial; omega), HD6.out⟩
          · go_wp2
            go_meet
            exact ⟨-1, rfl, .inl rfl, HD6.out⟩
        case rest =>
          obtain ⟨z, rfl, hz, hd7⟩ := hcut
          have HD7 := hid hd7
          have HZ := hid hz
          have hz7 : w.heap.size + 1 < wc.heap.size := HD7.out.box.lt
          obtain ⟨q0, q1, -⟩ := cells2 HD7.out.box
          have HD7a := hid (HD7.out.al (.cells #[.int .i64 z] 3))
          clear hd7 hz HD6
          go_wp2_with (at_builtin; refine wpList_append_own _ rfl _ _ 39 rfl w.heap.size 3 i1 (.int .i64 0) 1 8 Try.underlying39 hi' hy0 hy1 hy2 rfl (by decide) _ _ _ rfl HD7a.out.ov ⟨wc.heap.size, 0, none⟩ 1 1 [.int .i64 z] rfl rfl (new_one _ _ _) (one_int _) (by unfold maxLen; omega) (by omega) (by simp; omega) ?_)
          intro v' w8 hown' hgrow _
          obtain ⟨va', vc', rfl⟩ := sl_own hown'
          obtain ⟨hb8, hd8⟩ := HD7a.out.app2 hC (by decide) (by decide) (by decide) hown' hgrow
          obtain ⟨p0, p1, f0, f1⟩ := cells2 hb8
          have HD8 := hid hd8
          clear hown' hgrow hb8 hd8 HD7 HD7a q0 q1
          go_wp2
          go_roundw
          case rel => exact ⟨k + 1, ps ++ [(r, l)], xs ++ [z], _, _, by omega, by go_num, by simp [HLP.out], by simp [HLX.out], by
            intro y hy
            rcases List.mem_append.1 hy with h1 | h1
            · exact HSM.out y h1
            · simp at h1; subst h1; exact HSC.out, upTo_snoc HUP.out (by have := HZ.out; have := HLX.out; omega), by rw [pcells_snoc, List.map_append]; exact HD8.out⟩
          case measure => simp [intOf]; omega
    · have hkl : k = m + 1 := by omega
      have HK := hid hkl
      obtain ⟨q0, q1, -⟩ := cells2 HD.out.box
      obtain ⟨_, _, f0, f1⟩ := cells2 HD.out.res
      have hB : w.heap.size + 1 < wr.heap.size := HD.out.box.lt
      obtain ⟨m0, m1', -, -⟩ := cells2 (blq_set (x0 := .slice ua k uc) (x1 := .slice va k vc) HD.out.res)
      have HC2 : Hid (chainB ps xs = true) := drawn_ok (by rw [HLP.out]; omega) (by rw [HLP.out]; omega) (by rw [HLP.out, HLX.out]) HSM.out (by have := HUP.out; rw [HLP.out, HK.out]; exact this)
      have HE := hid (And.intro (show OwnP 24 ((wr.setCell ⟨w.heap.size, 0, none⟩ (.slice ua k uc)).setCell ⟨w.heap.size, 1, none⟩ (.slice va k vc)) w.heap.size (.slice ua k uc) ps from ⟨i64_sc HSM.out, by rw [HLP.out]; exact own_setq (own_setq HD.out.op HD.out.res (by decide) _ _) (blq_s0 HD.out.res _) (by decide) _ _⟩) (And.intro (show OwnI 3 ((wr.setCell ⟨w.heap.size, 0, none⟩ (.slice ua k uc)).setCell ⟨w.heap.size, 1, none⟩ (.slice va k vc)) w.heap.size (.slice va k vc) xs from ⟨i64_up HUP.out (by omega), by rw [HLX.out]; exact own_setq (own_setq HD.out.ov HD.out.res (by decide) _ _) (blq_s0 HD.out.res _) (by decide) _ _⟩) (And.intro (cur_set (cur_set HD.out.cur hC (o := 0) (.slice ua k uc)) hC (o := 1) (.slice va k vc)) (gr_set (gr_set HD.out.gr (p := ⟨w.heap.size, 0, none⟩) (.inr (Nat.le_refl _)) (.slice ua k uc)) (p := ⟨w.heap.size, 1, none⟩) (.inr (Nat.le_refl _)) (.slice va k vc)))))
      clear HD hkl
      go_wp2
      exact bodyPost_ret (v := .agg #[.slice ua k uc, .slice va k vc]) (by simp [results, Try.results32, go_sem, m0, m1']) rfl ⟨_, _, ps, xs, rfl, HC2.out, by rw [HLP.out, HK.out]; omega, HE.out⟩
def RetDC0 (PT IT : TypeId) (w : World) (e : Ending) (w' : World) : Prop := ∃ u v ps xs, e = .returned (.agg #[u, v]) ∧ chainB ps xs = true ∧ ps.length ≤ 6 ∧ OwnP PT w' w.heap.size u ps ∧ OwnI IT w' w.heap.size v xs ∧ Gr w w' none
theorem drawChain_any {v : Value} {n : Nat} (w : World) (h : BytesN w v n) (hn : n ≤ 1048576) : Calls Try.prog 18 #[v] w (RetDC0 24 3 w) := by
  have B0 := hid (blq_new w #[.slice none 0 0, .slice none 0 0] 41)
  obtain ⟨a, cap, rfl, _, _, _⟩ := id h
  have HN := hid (bytesN_kept' h (gr_alloc (gr_refl w none) (.cells #[.slice none 0 0, .slice none 0 0] 41)) (by intro j e; cases e))
  clear h
  go_enter Try.func18, Try.ntmps18
  go_wp2_with fail
  refine (l01New_any _ HN.out hn).mono ?_
  rintro e w1 ⟨C, hC, rfl, hc, g1⟩
  go_wp2_with fail
  refine (l05Chain_any _ hc).mono ?_
  rintro e w2 ⟨u, v, ps, xs, rfl, hs, hl, hu, hv, _, g2⟩
  obtain ⟨ua, uc, rfl⟩ := sl_own hu.2
  obtain ⟨va, vc, rfl⟩ := sl_own hv.2
  simp only [World.size_alloc] at hC
  have z1 := gr_le g1
  simp only [World.size_alloc] at z1
  have B2 := (B0.out.kept g1 (by simp)).kept g2 (by simp; omega)
  obtain ⟨_, _, f0, f1⟩ := cells2 B2
  obtain ⟨m0, m1, _, _⟩ := cells2 (blq_set (x0 := .slice ua ps.length uc) (x1 := .slice va xs.length vc) B2)
  have HE := hid (And.intro (show OwnP 24 ((w2.setCell ⟨w.heap.size, 0, none⟩ (.slice ua ps.length uc)).setCell ⟨w.heap.size, 1, none⟩ (.slice va xs.length vc)) w.heap.size (.slice ua ps.length uc) ps from ⟨hu.1, own_setq (own_setq (hu.mono' (by omega)).2 B2 (by decide) _ _) (blq_s0 B2 _) (by decide) _ _⟩) (And.intro (show OwnI 3 ((w2.setCell ⟨w.heap.size, 0, none⟩ (.slice ua ps.length uc)).setCell ⟨w.heap.size, 1, none⟩ (.slice va xs.length vc)) w.heap.size (.slice va xs.length vc) xs from ⟨hv.1, own_setq (own_setq (hv.mono (by omega)).2 B2 (by decide) _ _) (blq_s0 B2 _) (by decide) _ _⟩) (gr_set (gr_set (gr_trans (gr_then (gr_alloc (gr_refl w none) _) g1) g2 (fun j e => by cases e; exact .inr (by omega))) (p := ⟨w.heap.size, 0, none⟩) (.inr (Nat.le_refl _)) (.slice ua ps.length uc)) (p := ⟨w.heap.size, 1, none⟩) (.inr (Nat.le_refl _)) (.slice va xs.length vc))))
  clear HN B0 B2 g1 g2 hc hu hv
  go_wp2
  exact bodyPost_ret (v := .agg #[.slice ua ps.length uc, .slice va xs.length vc]) (by simp [results, Try.results18, go_sem, m0, m1]) rfl ⟨_, _, ps, xs, rfl, hs, hl, HE.out⟩
end Go.Proofs.Ytbmgmolnknnaiaa
