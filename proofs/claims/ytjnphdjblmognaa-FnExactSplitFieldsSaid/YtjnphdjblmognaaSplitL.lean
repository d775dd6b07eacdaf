/- The law over a line's fields, walked. -/
import Derived.Test.YtjnphdjblmognaaSplit
import Derived.Test.YtjnphdjblmognaaOpen
namespace Go.Proofs.Ytjnphdjblmognaa
open Go.RowKit

theorem splV_len (s : ByteArray) : (splV s).length ≤ 601 := by
  cases h : splB s
  · rw [spl_no h]; simp
  · rw [spl_yes h]
    simp only [splB, Bool.and_eq_true, decide_eq_true_eq] at h
    have := fldT_len s (s.size + 1)
    omega
theorem walk_FnExactSplitFields (s : ByteArray) (w : World) (_ : s.size ≤ maxLen) :
    Calls Try.prog 8 #[.string s] w fun e w' => e = .returned (.bool true) ∧ Gr w w' none := by
  by_cases hb : s.size ≤ 1048576
  case neg =>
    have hb' : (1048576 : Int) < s.size := by omega
    go_enter Try.func8, Try.ntmps8
    go_wp2
    go_ret
    exact ⟨rfl, gr_refl _ _⟩
  case pos =>
  have hb' : (s.size : Int) ≤ 1048576 := by omega
  have hlen := splV_len s
  go_enter Try.func8, Try.ntmps8
  go_wp2_with fail
  refine (sSplitFields_any _ _).mono ?_
  rintro e w1 ⟨u1, rfl, o1, g1⟩
  generalize hV : splV s = V at *
  have HV := hid hV
  clear hV
  have O1 := hid o1
  have G1 := hid g1
  clear o1 g1
  go_wp2_with fail
  refine (splitFields_any _ _).mono ?_
  rw [HV.out]
  rintro e w2 ⟨u2, rfl, o2, g2⟩
  generalize hQ : splB s = Q at *
  have HQ := hid hQ
  clear hQ
  have O2 := hid o2
  have O12 := hid (O1.out.on g2)
  have G2 := hid (gr_then G1.out g2)
  have Z2 := hid (gr_le g2)
  clear o2 g2
  go_wp2_with fail
  refine (eqStringS_any _ O2.out.strs O12.out.strs).mono ?_
  simp only [decide_true]
  rintro e w3 ⟨rfl, g3⟩
  have O3 := hid (O2.out.on g3)
  have O13 := hid (O12.out.on g3)
  have G3 := hid (gr_then G2.out g3)
  clear g3
  have hqq : (Q != Q) = false := by simp
  go_wp2_with fail
  refine (markStringS_any 1 _ O3.out (by omega) (by omega) (by omega)).mono ?_
  rintro e w4 ⟨rfl, m4, g4⟩
  have Z1 := hid (gr_le G1.out)
  have hne : ∀ j, u2.ownBlock = some j → u1.ownBlock ≠ some j := fun j h1 h2 => by
    have a1 := (O2.out.lt j h1).1
    have a2 := (O1.out.lt j h2).2
    omega
  have S14 := hid (O13.out.strs.kept g4 hne)
  have G4 := hid (gr_trans G3.out g4 (fun j e => .inr (by have a1 := (O2.out.lt j e).1; have := Z1.out; omega)))
  have M4 := hid m4
  clear m4 g4 hne
  go_wp2_with fail
  refine (heldStringS_any V.length 1 _ M4.out.strs (by omega) (by omega) (by omega)).mono ?_
  rintro e w5 ⟨rfl, g5⟩
  have S15 := hid (S14.out.on g5)
  have M5 := hid (M4.out.on g5)
  have G5 := hid (gr_then G4.out g5)
  clear g5
  go_wp2_with fail
  refine (splitFields_any _ _).mono ?_
  rw [HV.out, HQ.out]
  rintro e w6 ⟨u6, rfl, o6, g6⟩
  have O6 := hid o6
  have S16 := hid (S15.out.on g6)
  have M6 := hid (M5.out.on g6)
  have G6 := hid (gr_then G5.out g6)
  clear o6 g6
  go_wp2_with fail
  refine (eqStringS_any _ O6.out.strs S16.out).mono ?_
  simp only [decide_true]
  rintro e w7 ⟨rfl, g7⟩
  have M7 := hid (M6.out.on g7)
  have G7 := hid (gr_then G6.out g7)
  clear g7
  go_wp2_with fail
  refine (heldStringS_any V.length 1 _ M7.out.strs (by omega) (by omega) (by omega)).mono ?_
  rintro e w8 ⟨rfl, g8⟩
  have G8 := hid (gr_then G7.out g8)
  clear g8
  go_wp2
  go_ret
  exact ⟨rfl, G8.out⟩
end Go.Proofs.Ytjnphdjblmognaa
