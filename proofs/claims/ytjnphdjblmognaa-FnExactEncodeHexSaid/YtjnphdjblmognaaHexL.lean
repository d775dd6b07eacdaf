/- The laws over hexadecimal text, walked. -/
import Derived.Test.YtjnphdjblmognaaHexS
namespace Go.Proofs.Ytjnphdjblmognaa
open Go.RowKit

theorem walk_FnExactEncodeHex (s : ByteArray) (w : World) (_ : s.size ≤ maxLen) :
    Calls Try.prog 4 #[.string s] w fun e w' => e = .returned (.bool true) ∧ Gr w w' none := by
  by_cases hb : s.size ≤ 1048576
  · have hb' : (s.size : Int) ≤ 1048576 := by omega
    go_enter Try.func4, Try.ntmps4
    go_wp2_with fail
    refine (sEncodeHex_any _ _).mono ?_
    rintro e w1 ⟨rfl, g1⟩
    go_wp2_with fail
    refine (encodeHex_any _ _).mono ?_
    rintro e w2 ⟨rfl, g2⟩
    go_wp2
    go_ret
    exact ⟨rfl, gr_same g1 g2⟩
  · have hb' : (1048576 : Int) < s.size := by omega
    go_enter Try.func4, Try.ntmps4
    go_wp2
    go_ret
    exact ⟨rfl, gr_refl _ _⟩
end Go.Proofs.Ytjnphdjblmognaa
