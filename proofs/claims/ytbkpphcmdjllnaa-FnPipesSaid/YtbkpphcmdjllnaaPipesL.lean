/- The law over a drawn net, walked. -/
import Derived.Test.YtbkpphcmdjllnaaPipesQ
import Derived.Test.YtbkpphcmdjllnaaDrawNet3
import Derived.Test.YtbkpphcmdjllnaaLex
import Derived.Test.YtbkpphcmdjllnaaBoxes
namespace Go.Proofs.Ytbkpphcmdjllnaa
open Go.RowKit

/-- The box P holds a net. -/
structure NW (W : World) (P : Nat) (n : Nat) (ua : Option Addr) (uc : Nat) (ts : List Tri) : Prop where
  c0 : W.cell? ⟨P, 0, none⟩ = some (.int .i64 n)
  c1 : W.cell? ⟨P, 1, none⟩ = some (.slice ua ts.length uc)
  tr : Trips W (.slice ua ts.length uc) ts
theorem NW.on {W W' : World} {P n uc : Nat} {ua : Option Addr} {ts : List Tri} (h : NW W P n ua uc ts) (hg : Gr W W' none) : NW W' P n ua uc ts :=
  ⟨cell_on hg h.c0, cell_on hg h.c1, h.tr.on hg⟩
theorem nw_new {W : World} {n uc : Nat} {ua : Option Addr} {ts : List Tri} (T : TypeId) (h : Trips W (.slice ua ts.length uc) ts) : NW (W.alloc (.cells #[.int .i64 n, .slice ua ts.length uc] T)) W.heap.size n ua uc ts :=
  ⟨by simp [go_sem], by simp [go_sem], h.on (gr_alloc (gr_refl _ none) _)⟩
set_option maxRecDepth 100000 in
set_option maxHeartbeats 40000000 in
theorem walk_FnPipes (v : Value) (k : Nat) (w : World) (h : BytesN w v k) :
    Calls Try.prog 5 #[v] w fun e w' => e = .returned (.bool true) ∧ Gr w w' none := by
  obtain ⟨a0, cap0, rfl, _⟩ := id h
  by_cases hn : k ≤ 1048576
  case neg =>
    have hb : decide (1048576 < (k : Int)) = true := by simp; omega
    go_enter Try.func5, Try.ntmps5
    go_wp2_with fail
    refine (big_any _ h).mono ?_
    rw [hb]
    rintro e w' ⟨rfl, rfl⟩
    go_wp2
    go_ret
    exact ⟨rfl, gr_refl _ _⟩
  case pos =>
  have hb : decide (1048576 < (k : Int)) = false := by simp; omega
  have H := hid h
  clear h
  go_enter Try.func5, Try.ntmps5
  go_wp2_with fail
  refine (big_any _ H.out).mono ?_
  rw [hb]
  rintro e w' ⟨rfl, rfl⟩
  clear hb
  go_wp2_with fail
  refine (drawNetEnds_any _ H.out hn).mono ?_
  rintro e w1 ⟨n, a, b, u, ts, rfl, hnet, ⟨ha, hbn, hab⟩, hu, g1⟩
  obtain ⟨ua, uc, rfl⟩ := sl_ownT hu
  have HF := hid (pFacts hnet ha hbn hab)
  have HT := hid (turnNet_any (u := .slice ua ts.length uc) (ts := ts) n)
  have HWW := hid (widestWay_any (u := .slice ua ts.length uc) (ts := ts) n a b)
  have HRB := hid (reachedBy_any (u := .slice ua ts.length uc) (ts := ts) n a)
  generalize bestTo n ts a b ts.length = WW at HF HWW
  generalize reachM ts 1 a n = M at HF HRB
  generalize ts.map turnT = T at HF HT
  have HN := hid hnet
  have HAB := hid hab
  obtain ⟨⟨hn2, hn8⟩, hl20, -⟩ := netB_parts hnet
  have G1 := gr_alloc g1 (.cells #[.int .i64 n, .slice ua ts.length uc] 29)
  have hP := nw_new (n := n) 29 hu.trips
  go_upto_region 4 with fail
  generalize w1.alloc (.cells #[.int .i64 n, .slice ua ts.length uc] 29) = W1 at *
  generalize w1.heap.size = P at *
  have HP := hid hP
  have HG1 := hid G1
  clear hnet hu g1 G1 hP hn H hab
  have c0 := HP.out.c0
  have c1 := HP.out.c1
  go_wp2_with fail
  refine (HWW.out _ HP.out.tr HN.out ha hbn HAB.out).mono ?_
  rintro e W2 ⟨rfl, g2⟩
  have HP2 := hid (HP.out.on g2)
  have HG2 := hid (gr_then HG1.out g2)
  clear c0 c1 g2 HP HG1
  have c0 := HP2.out.c0
  have c1 := HP2.out.c1
  go_wp2_with fail
  refine (HRB.out _ HP2.out.tr HN.out ha).mono ?_
  rintro e W3 ⟨ur, rfl, our, g3⟩
  obtain ⟨ra, rc, rfl⟩ := sl_own' our.2
  have HR3 := hid our.ints
  have HP3 := hid (HP2.out.on g3)
  have HG3 := hid (gr_then HG2.out g3)
  clear c0 c1 g3 our HP2 HG2
  have c0 := HP3.out.c0
  have c1 := HP3.out.c1
  go_wp2_with fail
  refine (HT.out _ HP3.out.tr HN.out).mono ?_
  rintro e W4 ⟨ut, rfl, out4, g4⟩
  obtain ⟨ta, tc, rfl⟩ := sl_ownT out4
  have HQ5 := hid (nw_new (n := n) 29 out4.trips)
  have HP5 := hid (HP3.out.on (gr_alloc g4 (.cells #[.int .i64 n, .slice ta T.length tc] 29)))
  have HR5 := hid (HR3.out.on (gr_alloc g4 (.cells #[.int .i64 n, .slice ta T.length tc] 29)))
  have HG5 := hid (gr_alloc (gr_then HG3.out g4) (.cells #[.int .i64 n, .slice ta T.length tc] 29))
  clear c0 c1 g4 out4 HP3 HR3 HG3
  go_upto_region 7 with fail
  generalize W4.alloc (.cells #[.int .i64 n, .slice ta T.length tc] 29) = W5 at *
  generalize W4.heap.size = Q at *
  have h8 : n ≤ 8 := by omega
  have hl8 : (memTo M 8).length ≤ 8 := memTo_length M 8
  have HH : Hid (∀ (p : Nat), p < n → ∀ W, Gr W5 W none → Calls Try.prog 18 #[.slice ra (memTo M 8).length rc, .int .i64 p] W fun e w' => e = .returned (.bool (M.testBit p)) ∧ Gr W w' none) := hid fun p hp W g =>
    (has_any (p : Int) W (HR5.out.on g)).mono fun e w' hh => ⟨by rw [hh.1, has_mem (by omega)], by rw [← hh.2]; exact gr_refl _ _⟩
  have HQW : Hid (∀ W, Gr W5 W none → Calls Try.prog 15 #[.agg #[.int .i64 n, .slice ta T.length tc], .int .i64 b, .int .i64 a] W fun e w' => e = .returned (.int .i64 WW) ∧ Gr W w' none) := hid fun W g => by
    have := widestWay_any n b a W (HQ5.out.tr.on g) HF.out.okT hbn ha (Ne.symm HAB.out)
    rwa [HF.out.turn] at this
  generalize (memTo M 8).length = L at *
  clear HR5 HRB HT
  have dW : decide (WW < 0) = false := by have := HF.out.w0; simp; omega
  have dT : ((T.length : Int) != (ts.length : Int)) = false := by rw [HF.out.lenT]; simp
  have c0 := HP5.out.c0
  have c1 := HP5.out.c1
  have e0 := HQ5.out.c0
  have e1 := HQ5.out.c1
  go_wp2_with fail
  refine (HH.out b hbn _ (gr_refl _ _)).mono ?_
  rw [HF.out.hb]
  rintro e W6 ⟨rfl, g6⟩
  have HS6 := hid g6
  clear c0 c1 e0 e1 g6
  go_wp2_with fail
  refine (HH.out a ha _ HS6.out).mono ?_
  rw [HF.out.ha]
  rintro e W7 ⟨rfl, g7⟩
  have HS7 := hid (gr_then HS6.out g7)
  have e0 := (HQ5.out.on HS7.out).c0
  have e1 := (HQ5.out.on HS7.out).c1
  clear g7 HS6
  go_wp2_with fail
  refine (HQW.out _ HS7.out).mono ?_
  rintro e W8 ⟨rfl, g8⟩
  have HS8 := hid (gr_then HS7.out g8)
  clear g8 e0 e1 HS7
  have e0 := (HQ5.out.on HS8.out).c0
  have e1 := (HQ5.out.on HS8.out).c1
  go_wp2_with fail
  refine (netOk_any _ _ (HQ5.out.on HS8.out).tr).mono ?_
  rw [HF.out.okT]
  rintro e W9 ⟨rfl, g9⟩
  have HS9 := hid (gr_then HS8.out g9)
  clear g9 e0 e1 HS8
  have HP9 := hid (HP5.out.on HS9.out)
  have HQ9 := hid (HQ5.out.on HS9.out)
  have HG9 := hid (gr_then HG5.out HS9.out)
  have HH9 : Hid (∀ (p : Nat), p < n → ∀ W, Gr W9 W none → Calls Try.prog 18 #[.slice ra L rc, .int .i64 p] W fun e w' => e = .returned (.bool (M.testBit p)) ∧ Gr W w' none) := hid fun p hp W g => HH.out p hp W (gr_then HS9.out g)
  clear HP5 HQ5 HG5 HS9 HQW HH
  have c0 := HP9.out.c0
  have c1 := HP9.out.c1
  have e0 := HQ9.out.c0
  have e1 := HQ9.out.c1
  go_upto_region 11 with fail
  clear dW dT c0 c1 e0 e1
  go_cut [11] from 16 (fun i wx => i = .int .i64 0 ∧ W9 = wx)
  case first =>
    go_wp2
    go_meet
    exact ⟨rfl, rfl⟩
  case rest =>
  obtain ⟨rfl, rfl⟩ := hcut
  go_wp2_with fail
  go_loopw [9, 10, 11] (fun s bk p wr => ∃ m : Nat, m ≤ n ∧ s = .int .i64 (sumOut ts ts.length m) ∧ bk = .int .i64 (sumOut T T.length m) ∧ p = .int .i64 m ∧ Gr W9 wr none) (fun _ _ p _ => n - (intOf p).toNat)
  case atStart => exact ⟨0, Nat.zero_le _, rfl, rfl, rfl, gr_refl _ _⟩
  case round =>
    obtain ⟨m, hm, rfl, rfl, rfl, hg⟩ := hrel
    by_cases hlt : m < n
    · have HB1 := outTo_bd HN.out m ts.length (Nat.le_refl _)
      have HB2 := outTo_bd HF.out.okT m T.length (Nat.le_refl _)
      have HS1 := sumOut_bd HN.out m
      have HS2 := sumOut_bd HF.out.okT m
      have hT20 : T.length ≤ 20 := by rw [HF.out.lenT]; exact hl20
      have HO1 : Hid (∀ W, Gr wr W none → Calls Try.prog 12 #[.agg #[.int .i64 n, .slice ua ts.length uc], .int .i64 m] W fun e w' => e = .returned (.int .i64 (outTo ts m ts.length)) ∧ Gr W w' none) := hid fun W g => by
        have := outOf_any n m W ((HP9.out.on hg).on g).tr
        rwa [outV, HN.out, inB_mk ⟨by omega, by omega⟩] at this
      have HO2 : Hid (∀ W, Gr wr W none → Calls Try.prog 12 #[.agg #[.int .i64 n, .slice ta T.length tc], .int .i64 m] W fun e w' => e = .returned (.int .i64 (outTo T m T.length)) ∧ Gr W w' none) := hid fun W g => by
        have := outOf_any n m W ((HQ9.out.on hg).on g).tr
        rwa [outV, HF.out.okT, inB_mk ⟨by omega, by omega⟩] at this
      have HE1 := hid (show sumOut ts ts.length (m + 1) = sumOut ts ts.length m + outTo ts m ts.length from rfl)
      have HE2 := hid (show sumOut T T.length (m + 1) = sumOut T T.length m + outTo T m T.length from rfl)
      generalize sumOut ts ts.length m = s1 at *
      generalize sumOut T T.length m = s2 at *
      generalize outTo ts m ts.length = o1 at *
      generalize outTo T m T.length = o2 at *
      have hlt' : (m : Int) < n := by omega
      have HP := hid (HP9.out.on hg)
      have HQ := hid (HQ9.out.on hg)
      have HGW := hid hg
      have c0 := HP.out.c0
      have c1 := HP.out.c1
      clear hg
      -- D{
      as_aux_lemma =>
        go_wp2_with fail
        refine (HO1.out _ (gr_refl _ _)).mono ?_
        rintro e wa ⟨rfl, ga⟩
        have e0 := (HQ.out.on ga).c0
        have e1 := (HQ.out.on ga).c1
        have HGA := hid ga
        clear c0 c1 ga
        go_wp2_with fail
        refine (HO2.out _ HGA.out).mono ?_
        rintro e wb ⟨rfl, gb⟩
        have HGB := hid (gr_then (gr_then HGW.out HGA.out) gb)
        clear e0 e1 gb
        go_wp2
        go_roundw
        case rel => exact ⟨m + 1, by omega, by rw [HE1.out], by rw [HE2.out], by go_num, HGB.out⟩
        case measure => simp [intOf]; omega
      -- D}
    · have hmn : m = n := by omega
      subst hmn
      have HP10 := hid (HP9.out.on hg)
      have HQ10 := hid (HQ9.out.on hg)
      have HG10 := hid (gr_then HG9.out hg)
      have HH10 : Hid (∀ (p : Nat), p < m → ∀ W, Gr wr W none → Calls Try.prog 18 #[.slice ra L rc, .int .i64 p] W fun e w' => e = .returned (.bool (M.testBit p)) ∧ Gr W w' none) := hid fun p hp W g => HH9.out p hp W (gr_then hg g)
      have c0 := HP10.out.c0
      rw [HF.out.sum1, HF.out.sum2]
      clear hg HP9 HQ9 HG9 HH9
      go_upto_region 17 with fail
      generalize wr = W10 at *
      clear c0
      go_cut [13] from 16 (fun i wx => i = .int .i64 0 ∧ W10 = wx)
      case first =>
        go_wp2
        go_meet
        exact ⟨rfl, rfl⟩
      case rest =>
      obtain ⟨rfl, rfl⟩ := hcut
      clear hlt hm
      go_wp2_with fail
      go_loopw [12, 13, 14, 15] (fun s i _ _ wr => ∃ j : Nat, j ≤ ts.length ∧ s = .int .i64 (sumW ts j) ∧ i = .int .i64 j ∧ Gr W10 wr none) (fun _ i _ _ _ => ts.length - (intOf i).toNat)
      case atStart => exact ⟨0, Nat.zero_le _, rfl, rfl, gr_refl _ _⟩
      case round =>
        obtain ⟨j, hj, rfl, rfl, hg⟩ := hrel
        have c0 := (HP10.out.on hg).c0
        have c1 := (HP10.out.on hg).c1
        by_cases hlt : j < ts.length
        · have hlt' : (j : Int) < ts.length := by omega
          have HSW := sumW_bd HN.out j (by omega)
          have HES := hid (show sumW ts (j + 1) = sumW ts j + (gt ts j).2.2 from rfl)
          have HPJ := net_pos HN.out _ (gt_mem hlt)
          have HCL := hid (HF.out.closed j hlt)
          have HLE := hid (HF.out.less j hlt)
          have HOL := hid (HF.out.okL j hlt)
          have HLL := hid (lessT_length hlt)
          have HWO := hid (withoutPipe_any (u := .slice ua ts.length uc) (ts := ts) m j)
          obtain ⟨-, sa, sc, hsl, -, -, hat⟩ := (HP10.out.on hg).tr
          simp only [Value.slice.injEq, true_and] at hsl
          obtain ⟨rfl, rfl⟩ := hsl
          obtain ⟨sb, so, rfl, hc⟩ : ∃ b off, ua = some ⟨b, off, none⟩ ∧ TripsAt wr b off ts := by
            rcases hat with h0 | h0
            · subst h0; simp at hlt
            · exact h0
          obtain ⟨t1, t2, t3⟩ := hc j hlt
          generalize sumW ts j = sw at *
          generalize hX : gt ts j = X at *
          obtain ⟨f, t, d⟩ := X
          obtain ⟨⟨f0, f1⟩, ⟨t0, t4⟩, d0, d1⟩ := HPJ
          dsimp only at f0 f1 t0 t4 d0 d1 t1 t2 t3 HCL HES
          obtain ⟨f, rfl⟩ := Int.eq_ofNat_of_zero_le f0
          obtain ⟨t, rfl⟩ := Int.eq_ofNat_of_zero_le t0
          rw [Int.toNat_natCast, Int.toNat_natCast] at HCL
          have HGT := hid hX
          clear hX
          have HGW := hid hg
          have HP := hid (HP10.out.on hg)
          have HAT := hid hc
          clear hat hc hg
          have HPO := hid HP10
          clear HP10
          -- D{
          as_aux_lemma =>
            go_wp2_with fail
            refine (HWO.out _ HP.out.tr HN.out hlt).mono ?_
            rintro e wa ⟨ux, rfl, ox, ga⟩
            obtain ⟨xa, xc, rfl⟩ := sl_ownT ox
            have HXN := hid (nw_new (n := m) 29 ox.trips)
            have HPA := hid ((HP.out.on ga).on (gr_alloc (gr_refl _ none) (.cells #[.int .i64 m, .slice xa (lessT ts j).length xc] 29)))
            have HGA := hid (gr_alloc (gr_then HGW.out ga) (.cells #[.int .i64 m, .slice xa (lessT ts j).length xc] 29))
            have hcA := (HAT.out.kept (gr_alloc ga (.cells #[.int .i64 m, .slice xa (lessT ts j).length xc] 29)) (by simp)) j hlt
            have dL : ((((lessT ts j).length : Nat) : Int) != (ts.length : Int) - 1) = false := by rw [HLL.out]; simp; omega
            clear ga ox c0 c1 t1 t2 t3
            go_upto_region 22 with fail
            generalize wa.alloc (.cells #[.int .i64 m, .slice xa (lessT ts j).length xc] 29) = wA at *
            generalize wa.heap.size = X at *
            have c0 := HPA.out.c0
            have c1 := HPA.out.c1
            have x0 := HXN.out.c0
            have x1 := HXN.out.c1
            rw [HGT.out] at hcA
            obtain ⟨y1, y2, -⟩ := hcA
            have HY1 := hid y1
            have HY2 := hid y2
            clear y1 y2
            have HBW := hid (widestWay_any m a b wA HXN.out.tr HOL.out ha hbn HAB.out)
            obtain ⟨b1, b2⟩ := HLE.out
            generalize bestTo m (lessT ts j) a b (lessT ts j).length = BX at *
            have dB : decide (WW < BX) = false := by simp; omega
            clear b1 b2
            go_wp2_with fail
            refine HBW.out.mono ?_
            rintro e wB ⟨rfl, gb⟩
            have c1 := (HPA.out.on gb).c1
            have y1 := cell_on gb HY1.out
            have y2 := cell_on gb HY2.out
            have HGB := hid (gr_then HGA.out gb)
            have HPB := hid (HPA.out.on gb)
            have HZ2 := hid y2
            clear gb y2 x0 x1 c0 HPA HXN HGA HBW
            go_wp2_with fail
            refine (HH10.out f (by omega) _ HGB.out).mono ?_
            cases hmf : M.testBit f
            · rintro e wC ⟨rfl, gc⟩
              have HGC := hid (gr_then HG10.out (gr_then HGB.out gc))
              have HGD := hid (gr_then HGB.out gc)
              clear gc c1 y1
              go_wp2
              go_roundw
              case rel => exact ⟨j + 1, by omega, by rw [HES.out], by go_num, HGD.out⟩
              case measure => simp [intOf]; omega
            · have hmt := HCL.out hmf
              have HMT := hid hmt
              rintro e wC ⟨rfl, gc⟩
              have c1 := (HPB.out.on gc).c1
              have y2 := cell_on gc HZ2.out
              have HGD := hid (gr_then HGB.out gc)
              clear gc y1 hmf hmt
              go_wp2_with fail
              refine (HH10.out t (by omega) _ HGD.out).mono ?_
              rw [HMT.out]
              rintro e wD ⟨rfl, gd⟩
              have HGE := hid (gr_then HGD.out gd)
              clear gd c1 y2
              go_wp2
              go_roundw
              case rel => exact ⟨j + 1, by omega, by rw [HES.out], by go_num, HGE.out⟩
              case measure => simp [intOf]; omega
          -- D}
        · have hjl : j = ts.length := by omega
          subst hjl
          have HO1 : Hid (∀ W, Gr wr W none → Calls Try.prog 12 #[.agg #[.int .i64 m, .slice ua ts.length uc], .int .i64 a] W fun e w' => e = .returned (.int .i64 (outTo ts a ts.length)) ∧ Gr W w' none) := hid fun W g => by
            have := outOf_any m a W ((HP10.out.on hg).on g).tr
            rwa [outV, HN.out, inB_mk ⟨by omega, by omega⟩] at this
          have dO : decide (WW ≤ outTo ts a ts.length) = true := by have := HF.out.out; simp; omega
          have HGW := hid (gr_then HG10.out hg)
          generalize outTo ts a ts.length = o1 at *
          generalize sumW ts ts.length = sw at *
          clear hg
          go_wp2_with fail
          refine (HO1.out _ (gr_refl _ _)).mono ?_
          rintro e wa ⟨rfl, ga⟩
          have HGA := hid (gr_then HGW.out ga)
          clear ga c0 c1
          go_wp2
          go_ret
          exact ⟨rfl, HGA.out⟩
end Go.Proofs.Ytbkpphcmdjllnaa
