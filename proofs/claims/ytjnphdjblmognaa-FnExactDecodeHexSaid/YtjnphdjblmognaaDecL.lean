/- The laws over hexadecimal text, walked. -/
import Derived.Test.YtjnphdjblmognaaDecI
namespace Go.Proofs.Ytjnphdjblmognaa
open Go.RowKit

theorem walk_FnExactDecodeHex (s : ByteArray) (w : World) (_ : s.size ≤ maxLen) :
    Calls Try.prog 5 #[.string s] w fun e w' => e = .returned (.bool true) ∧ Gr w w' none := by
  by_cases hb : s.size ≤ 1048576
  · have hb' : (s.size : Int) ≤ 1048576 := by omega
    go_enter Try.func5, Try.ntmps5
    go_wp2_with fail
    refine (sDecodeHex_any _ _).mono ?_
    rintro e w1 ⟨rfl, g1⟩
    go_wp2_with fail
    refine (decodeHex_any _ _ hb).mono ?_
    rintro e w2 ⟨rfl, g2⟩
    go_wp2
    go_ret
    exact ⟨rfl, gr_same g1 g2⟩
  · have hb' : (1048576 : Int) < s.size := by omega
    go_enter Try.func5, Try.ntmps5
    go_wp2
    go_ret
    exact ⟨rfl, gr_refl _ _⟩
end Go.Proofs.Ytjnphdjblmognaa
