/- The least area that catches enough. -/
import Derived.Test.YthbambpecoffaaaRoof1
namespace Go.Proofs.Ythbambpecoffaaa
open Go.RowKit

/-- The least area from a on, f tries. -/
def areaTo (need r p : Int) : Nat → Int → Int
  | 0, _ => -1
  | f + 1, a => if need ≤ a * r * p / 100 then a else areaTo need r p f (a + 1)
def areaB (need r p : Int) : Bool := inB need 0 1000000 && inB r 0 300 && inB p 0 100
def areaV (need r p : Int) : Int := if areaB need r p then areaTo need r p 1000 1 else -1
theorem area_catch {a r p : Int} (ha : 1 ≤ a) (ha' : a ≤ 1000) (hr : inB r 0 300 = true) (hp : inB p 0 100 = true) : catchV a p r = a * r * p / 100 := by
  rw [catchV, if_pos]
  rw [roofB, hp, hr, inB_mk ⟨ha, ha'⟩]; rfl
theorem area_bd {a r p : Int} (ha : 1 ≤ a) (ha' : a ≤ 1000) (hr : inB r 0 300 = true) (hp : inB p 0 100 = true) : (0 ≤ a * r ∧ a * r ≤ 300000) ∧ (0 ≤ a * r * p ∧ a * r * p ≤ 30000000) :=
  catch_bd (by rw [roofB, hp, inB_mk ⟨ha, ha'⟩]; rfl) hr
theorem areaFor_any (need r p : Int) (w : World) :
    Calls Try.prog 24 #[.int .i64 need, .int .i64 r, .int .i64 p] w fun e w' => e = .returned (.int .i64 (areaV need r p)) ∧ Gr w w' none := by
  unfold areaV areaB
  cases h1 : inB need 0 1000000 <;> cases h2 : inB r 0 300 <;> cases h3 : inB p 0 100
  case true.true.true =>
    generalize hT : areaTo need r p 1000 1 = T
    have HT := hid hT
    clear hT
    go_enter Try.func24, Try.ntmps24
    go_wp2_with (go_at_call 59; refine (within_any _ _ _ _).mono ?_; rintro e w' ⟨rfl, rfl⟩)
    go_loopw [7] (fun a wr => ∃ k : Nat, 1 ≤ k ∧ k ≤ 1001 ∧ a = .int .i64 k ∧ areaTo need r p (1001 - k) k = T ∧ Gr w wr none) (fun a _ => 1001 - (intOf a).toNat)
    case atStart => exact ⟨1, by omega, by omega, rfl, HT.out, gr_refl _ _⟩
    case round =>
      obtain ⟨k, hk1, hk2, rfl, heq, hg⟩ := hrel
      have HE := hid heq
      clear heq
      by_cases hlt : k ≤ 1000
      · have hb := area_bd (a := k) (by omega) (by omega) h2 h3
        have hv := area_catch (a := k) (by omega) (by omega) h2 h3
        have E : Hid (areaTo need r p (1001 - k) k = if need ≤ (k : Int) * r * p / 100 then (k : Int) else areaTo need r p (1001 - (k + 1)) ((k + 1 : Nat) : Int)) := by
          show areaTo need r p (1001 - k) k = _
          rw [show 1001 - k = (1001 - (k + 1)) + 1 from by omega]
          rfl
        generalize hV : (k : Int) * r * p / 100 = V at *
        have HV := hid hV
        have hv' := hid hv
        clear hv hV hb
        go_wp2_with fail
        refine (catch_any _ _ _ _).mono ?_
        rw [hv'.out]
        rintro e w1 ⟨rfl, g1⟩
        by_cases hq : need ≤ V
        · have e1 := E.out
          rw [if_pos hq, HE.out] at e1
          have E1 := hid e1
          clear e1
          go_wp2
          go_ret
          exact ⟨ret_int E1.out.symm, gr_then hg g1⟩
        · have e1 := E.out
          rw [if_neg hq, HE.out] at e1
          have E1 := hid e1
          clear e1
          go_wp2
          go_roundw
          case rel => exact ⟨k + 1, by omega, by omega, by go_num, E1.out.symm, gr_then hg g1⟩
          case measure => simp [intOf]; omega
      · obtain rfl : k = 1001 := by omega
        have e1 : T = -1 := by rw [← HE.out]; rfl
        have E1 := hid e1
        clear e1
        go_wp2
        go_ret
        exact ⟨ret_int E1.out.symm, hg⟩
  all_goals
    go_enter Try.func24, Try.ntmps24
    go_wp2_with (go_at_call 59; refine (within_any _ _ _ _).mono ?_; rintro e w' ⟨rfl, rfl⟩)
    go_ret
    exact ⟨rfl, gr_refl _ _⟩
theorem sAreaFor_any (need r p : Int) (w : World) :
    Calls Try.prog 23 #[.int .i64 need, .int .i64 r, .int .i64 p] w fun e w' => e = .returned (.int .i64 (areaV need r p)) ∧ w = w' := by
  unfold areaV areaB
  cases h1 : inB need 0 1000000 <;> cases h2 : inB r 0 300 <;> cases h3 : inB p 0 100
  case true.true.true =>
    generalize hT : areaTo need r p 1000 1 = T
    have HT := hid hT
    clear hT
    go_enter Try.func23, Try.ntmps23
    go_wp2_with (go_at_call 58; refine (l01In_any _ _ _ _).mono ?_; rintro e w' ⟨rfl, rfl⟩)
    go_loop [7] (fun a => ∃ k : Nat, 1 ≤ k ∧ k ≤ 1001 ∧ a = .int .i64 k ∧ areaTo need r p (1001 - k) k = T) (fun a => 1001 - (intOf a).toNat)
    case atStart => exact ⟨1, by omega, by omega, rfl, HT.out⟩
    case round =>
      obtain ⟨k, hk1, hk2, rfl, heq⟩ := hrel
      have HE := hid heq
      clear heq
      by_cases hlt : k ≤ 1000
      · have hb := area_bd (a := k) (by omega) (by omega) h2 h3
        have E : Hid (areaTo need r p (1001 - k) k = if need ≤ (k : Int) * r * p / 100 then (k : Int) else areaTo need r p (1001 - (k + 1)) ((k + 1 : Nat) : Int)) := by
          show areaTo need r p (1001 - k) k = _
          rw [show 1001 - k = (1001 - (k + 1)) + 1 from by omega]
          rfl
        obtain ⟨⟨hb1, hb2⟩, hb3, hb4⟩ := hb
        by_cases hq : need ≤ (k : Int) * r * p / 100
        · have e1 := E.out
          rw [if_pos hq, HE.out] at e1
          have E1 := hid e1
          clear e1
          go_wp2
          go_ret
          exact ⟨ret_int E1.out.symm, rfl⟩
        · have e1 := E.out
          rw [if_neg hq, HE.out] at e1
          have E1 := hid e1
          clear e1
          go_wp2
          go_round
          case rel => exact ⟨k + 1, by omega, by omega, by go_num, E1.out.symm⟩
          case measure => simp [intOf]; omega
      · obtain rfl : k = 1001 := by omega
        have e1 : T = -1 := by rw [← HE.out]; rfl
        have E1 := hid e1
        clear e1
        go_wp2
        go_ret
        exact ⟨ret_int E1.out.symm, rfl⟩
  all_goals
    go_enter Try.func23, Try.ntmps23
    go_wp2_with (go_at_call 58; refine (l01In_any _ _ _ _).mono ?_; rintro e w' ⟨rfl, rfl⟩)
    go_ret
    exact ⟨rfl, rfl⟩
theorem walk_FnExactAreaFor (need r p : Int) (w : World) (_ : I64 need) (_ : I64 r) (_ : I64 p) :
    Calls Try.prog 5 #[.int .i64 need, .int .i64 r, .int .i64 p] w fun e w' => e = .returned (.bool true) ∧ Gr w w' none := by
  go_enter Try.func5, Try.ntmps5
  go_wp2_with (first | (go_at_call 23; refine (sAreaFor_any _ _ _ _).mono ?_; rintro e w' ⟨rfl, rfl⟩) | (go_at_call 24; refine (areaFor_any _ _ _ _).mono ?_; rintro e w' ⟨rfl, hg⟩))
  go_ret
  exact ⟨rfl, hg⟩
end Go.Proofs.Ythbambpecoffaaa
