/- The least area that catches enough. -/
import Derived.Test.YtjbihhchagcppaaRoof1
namespace Go.Proofs.Ytjbihhchagcppaa
open Go.RowKit

/-- The least area from a on, f tries. -/
def areaTo (need r p : Int) : Nat → Int → Int
  | 0, _ => -1
  | f + 1, a => if need ≤ a * r * p / 100 then a else areaTo need r p f (a + 1)
def areaB (need r p : Int) : Bool := inB need 0 1000000 && inB r 0 300 && inB p 0 100
def areaV (need r p : Int) : Int := if areaB need r p then areaTo need r p 1000 1 else -1
theorem area_catch {a r p : Int} (ha : 1 ≤ a) (ha' : a ≤ 1000) (hr : inB r 0 300 = true) (hp : inB p 0 100 = true) : catchV a p r = a * r * p / 100 := by
  rw [catchV, if_pos]
  rw [roofB, hp, hr, inB_mk ⟨ha, ha'⟩]; rfl
theorem area_bd {a r p : Int} (ha : 1 ≤ a) (ha' : a ≤ 1000) (hr : inB r 0 300 = true) (hp : inB p 0 100 = true) : (0 ≤ a * r ∧ a * r ≤ 300000) ∧ (0 ≤ a * r * p ∧ a * r * p ≤ 30000000) :=
  catch_bd (by rw [roofB, hp, inB_mk ⟨ha, ha'⟩]; rfl) hr
theorem areaFor_any (need r p : Int) (w : World) :
    Calls Try.prog 12 #[.int .i64 need, .int .i64 r, .int .i64 p] w fun e w' => e = .returned (.int .i64 (areaV need r p)) ∧ Gr w w' none := by
  unfold areaV areaB
  cases h1 : inB need 0 1000000 <;> cases h2 : inB r 0 300 <;> cases h3 : inB p 0 100
  case true.true.true =>
    generalize hT : areaTo need r p 1000 1 = T
    have HT := hid hT
    clear hT
    go_enter Try.func12, Try.ntmps12
    go_wp2_with (go_at_call 19; refine (within_any _ _ _ _).mono ?_; rintro e w' ⟨rfl, rfl⟩)
    go_loopw [7] (fun a wr => ∃ k : Nat, 1 ≤ k ∧ k ≤ 1001 ∧ a = .int .i64 k ∧ areaTo need r p (1001 - k) k = T ∧ Gr w wr none) (fun a _ => 1001 - (intOf a).toNat)
    case atStart => exact ⟨1, by omega, by omega, rfl, HT.out, gr_refl _ _⟩
    case round =>
      obtain ⟨k, hk1, hk2, rfl, heq, hg⟩ := hrel
      have HE := hid heq
      clear heq
      by_cases hlt : k ≤ 1000
      · have hb := area_bd (a := k) (by omega) (by omega) h2 h3
        have hv := area_catch (a := k) (by omega) (by omega) h2 h3
        have E : Hid (areaTo need r p (1001 - k) k = if need ≤ (k : Int) * r * p / 100 then (k : Int) else areaTo need r p (1001 - (k + 1)) ((k + 1 : Nat) : Int)) := by
          show areaTo need r p (1001 - k) k = _
          rw [show 1001 - k = (1001 - (k + 1)) + 1 from by omega]
          rfl
        generalize hV : (k : Int) * r * p / 100 = V at *
        have HV := hid hV
        have hv' := hid hv
        clear hv hV hb
        go_wp2_with fail
        refine (catch_any _ _ _ _).mono ?_
        rw [hv'.out]
        rintro e w1 ⟨rfl, g1⟩
        by_cases hq : need ≤ V
        · have e1 := E.out
          rw [if_pos hq, HE.out] at e1
          have E1 := hid e1
          clear e1
          go_wp2
          go_ret
          exact ⟨ret_int E1.out.symm, gr_then hg g1⟩
        · have e1 := E.out
          rw [if_neg hq, HE.out] at e1
          have E1 := hid e1
          clear e1
          go_wp2
          go_roundw
          case rel => exact ⟨k + 1, by omega, by omega, by go_num, E1.out.symm, gr_then hg g1⟩
          case measure => simp [intOf]; omega
      · obtain rfl : k = 1001 := by omega
        have e1 : T = -1 := by rw [← HE.out]; rfl
        have E1 := hid e1
        clear e1
        go_wp2
        go_ret
        exact ⟨ret_int E1.out.symm, hg⟩
  all_goals
    go_enter Try.func12, Try.ntmps12
    go_wp2_with (go_at_call 19; refine (within_any _ _ _ _).mono ?_; rintro e w' ⟨rfl, rfl⟩)
    go_ret
    exact ⟨rfl, gr_refl _ _⟩
end Go.Proofs.Ytjbihhchagcppaa
