/- The law over a line's fields, joined again, walked. -/
import Derived.Test.YtjnphdjblmognaaDoorFields
namespace Go.Proofs.YtjnphdjblmognaaDoor
open Go.RowKit

theorem itoaS_m3 : itoaS (-3) = ⟨#[45, 51]⟩ := Go.WideShapes.bytes_inj (by
  rw [itoaS_data]
  unfold Lib.itoa
  rw [if_pos (by omega), show (-3 : Int).natAbs = 3 from rfl, Lib.decDigits_one (by omega)]; rfl)
theorem walk_FnFieldsAgain (v : Value) (n : Nat) (w : World) (h : BytesN w v n) (ht : Tab w) :
    Calls Tryd.prog 7 #[v] w fun e w' => e = .returned (.bool true) ∧ Gr w w' none := by
  by_cases hn : n ≤ 1048576
  case neg =>
    have hb : decide (1048576 < (n : Int)) = true := by simp; omega
    go_enter Tryd.func7, Tryd.ntmps7
    go_wp2_with fail
    refine (big_any _ h).mono ?_
    rw [hb]
    rintro e w' ⟨rfl, rfl⟩
    go_wp2
    go_ret
    exact ⟨rfl, gr_refl _ _⟩
  case pos =>
  have hb : decide (1048576 < (n : Int)) = false := by simp; omega
  have HB := hid h
  have HT := hid ht
  clear ht
  go_enter Tryd.func7, Tryd.ntmps7
  go_wp2_with fail
  refine (big_any _ h).mono ?_
  rw [hb]
  rintro e w' ⟨rfl, rfl⟩
  clear h hb
  go_wp2_with fail
  refine (drawSplitFields_any _ HB.out hn).mono ?_
  rintro e w1 ⟨s, rfl, g1⟩
  have G1 := hid g1
  clear g1
  go_wp2_with fail
  refine (splitFields_any _ _).mono ?_
  rintro e w2 ⟨u, rfl, o2, g2⟩
  have O2 := hid o2
  have G2 := hid (gr_then G1.out g2)
  clear o2 g2
  go_wp2_with fail
  refine (sSplitFields_any _ _).mono ?_
  rintro e w3 ⟨u3, rfl, _, g3⟩
  have S3 := hid (O2.out.on g3).strs
  have G3 := hid (gr_then G2.out g3)
  clear g3 O2 G2 G1
  generalize hQ : splB s = Q at *
  generalize hV : splV s = V at *
  have HQ := hid hQ
  have HV := hid hV
  clear hQ hV
  cases Q
  · have hv : V = [] := by rw [← HV.out]; exact spl_no HQ.out
    subst hv
    obtain ⟨a, cap, rfl, _, _, _⟩ := S3.out
    have T3 := hid (HT.out.on G3.out)
    go_wp2_with fail
    refine (formatInt_any (-3) _ (by unfold I64; omega) T3.out).mono ?_
    rw [itoaS_m3]
    rintro e w4 ⟨rfl, g4⟩
    have G4 := hid (gr_then G3.out g4)
    clear g4
    go_wp2
    go_ret
    exact ⟨rfl, G4.out⟩
  · have HF := hid (spl_fields HQ.out)
    have HZ := hid (spl_size HQ.out)
    rw [HV.out] at HF HZ
    have hl : V.length ≤ 24 := HF.out.2
    have HJ : Hid (∀ k, k ≤ V.length → (joinTo V k).size ≤ 601 * k) := join_bd HZ.out
    obtain ⟨a, cap, rfl, hcap, hmax, hat⟩ := S3.out
    unfold maxLen at hmax
    go_wp2_with fail
    go_loopw [8, 9] (fun t i wr => ∃ k : Nat, k ≤ V.length ∧ i = .int .i64 k ∧ t = .string (joinTo V k) ∧ Gr w wr none ∧ Gr w3 wr none) (fun _ i _ => V.length - (intOf i).toNat)
    case atStart => exact ⟨0, by omega, rfl, rfl, G3.out, gr_refl _ _⟩
    case round =>
      obtain ⟨k, hk, rfl, rfl, hg, hg3⟩ := hrel
      have GW := hid hg
      clear hg
      by_cases hlt : k < V.length
      · obtain ⟨b, off, rfl, hc⟩ : ∃ b off, a = some ⟨b, off, none⟩ ∧ StrsAt w3 b off V := by
          rcases hat with h0 | h0
          · subst h0; simp at hlt
          · exact h0
        have hcell := (hc.kept hg3 (by simp)) k hlt
        have G3W := hid hg3
        have hsz : (joinTo V k).size ≤ 15000 := by have := HJ.out k (by omega); omega
        have hsz2 : (gs V k).size ≤ 600 := HZ.out _ (gs_mem hlt)
        have h1 : (k : Int) < V.length := by omega
        have hsz3 : (joinTo V k ++ gs V k).size ≤ 16000 := by rw [ByteArray.size_append]; omega
        clear hc hat hg3
        go_wp2
        go_roundw
        case rel => exact ⟨k + 1, by omega, by go_num, rfl, GW.out, G3W.out⟩
        case measure => simp [intOf]; omega
      · have hkl : k = V.length := by omega
        subst hkl
        have S4 := hid (S3.out.on hg3)
        have HSP := hid (fun hz => split_join HF.out.1 hl hz)
        clear hat hg3
        generalize hT : joinTo V V.length = t at *
        clear hT
        go_wp2_with fail
        refine (splitFields_any _ _).mono ?_
        rintro e w5 ⟨u5, rfl, o5, g5⟩
        have O5 := hid o5.strs
        have S5 := hid (S4.out.on g5)
        have G5 := hid (gr_then GW.out g5)
        clear o5 g5
        by_cases hz : t.size ≤ 600
        · obtain ⟨p1, p2⟩ := HSP.out hz
          have hz' : ¬ (600 : Int) < t.size := by omega
          rw [p1]
          have O5' : Hid (Strs w5 u5 V) := by show Strs _ _ _; rw [← p2]; exact O5.out
          clear O5 p1 p2
          go_wp2_with fail
          refine (sameTexts_any _ S5.out O5'.out).mono ?_
          simp only [decide_true]
          rintro e w6 ⟨rfl, g6⟩
          have G6 := hid (gr_then G5.out g6)
          clear g6
          go_wp2
          go_ret
          exact ⟨rfl, G6.out⟩
        · have hz' : (600 : Int) < t.size := by omega
          go_wp2
          go_ret
          exact ⟨rfl, G5.out⟩
end Go.Proofs.YtjnphdjblmognaaDoor
