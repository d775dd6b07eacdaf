/- The search of the program, walked. -/
import Derived.Test.YtmnfainepmnpeaaYMono
import Derived.Deep.LoopGhost
namespace Go.Proofs.Ytmnfainepmnpeaa
open Go.RowKit

theorem least_any (K : Nat) (c0 : Value) (P : Int → Bool) (lo hi : Int) (w : World) (h0 : 0 ≤ lo) (h1 : lo ≤ hi + 1) (h2 : hi ≤ 1000000) (hm : ∀ a b, lo ≤ a → a ≤ b → b ≤ hi → P a = true → P b = true)
    (hc : ∀ m W, lo ≤ m → m ≤ hi → Gr w W none → Calls Try.prog K #[.int .i64 m, c0] W fun e W' => e = .returned (.bool (P m)) ∧ Gr W W' none) (eK : ∀ args w, (callFunc K args).run Try.prog w = .ok (.enter K args) w) :
    Calls Try.prog 70 #[.int .i64 lo, .int .i64 hi, .func (.func K) #[] #[c0]] w fun e w' => e = .returned (.int .i64 (leastV P lo hi)) ∧ Gr w w' none := by
  have HM := hid hm
  have HC := hid hc
  have S0 : Hid (Search P lo hi lo (hi + 1)) := ⟨Int.le_refl _, h1, Int.le_refl _, fun m a b => by omega, fun h => by omega⟩
  have HE : Hid (∀ x, Least P lo hi x → x = leastV P lo hi) := fun x hx => least_is h1 hx
  generalize leastV P lo hi = LV at *
  clear hm hc
  go_enter Try.func70, Try.ntmps70
  go_wp2_with fail
  go_loopg [0, 1] ((hi + 1 - lo).toNat + 1) (fun gk l h wr => ∃ l' h' : Int, l = .int .i64 l' ∧ h = .int .i64 h' ∧ Search P lo hi l' h' ∧ gk = (h' - l').toNat + 1 ∧ Gr w wr none)
  case atStart => exact ⟨lo, hi + 1, rfl, rfl, S0.out, rfl, gr_refl _ _⟩
  case round =>
    obtain ⟨l, h, rfl, rfl, hs, hgk, hg⟩ := hrel
    have b1 := hs.1
    have b2 := hs.2.1
    have b3 := hs.2.2.1
    have HS := hid hs
    have HGK := hid hgk
    have HG := hid hg
    clear S0 hs hgk hg
    by_cases hlt : l < h
    · obtain ⟨m, hm⟩ : ∃ m : Int, m = (l + h) / 2 := ⟨_, rfl⟩
      have m1 : l ≤ m := by omega
      have m2 : m < h := by omega
      have hdv : (l + h).tdiv 2 = m := by rw [hm]; exact Int.tdiv_eq_ediv_of_nonneg (by omega)
      have hdv' : (l + h) / 2 = m := hm.symm
      have HMM := hid hm
      have hw1 : IntKind.i64.wrap (l + h) = l + h := IntWalk.i64_in _ (by omega)
      clear hm
      cases hp : P m
      · have HP := hid hp
        clear hp
        go_wp2_with fail
        refine (HC.out m _ (by omega) (by omega) HG.out).mono ?_
        rw [HP.out]
        rintro e w2 ⟨rfl, g2⟩
        have HG2 := hid (gr_then HG.out g2)
        clear g2 hdv hdv' hw1
        go_wp2
        go_roundg ((h - (m + 1)).toNat + 1)
        case measure => have := HGK.out; omega
        case rel => exact ⟨m + 1, h, rfl, rfl, search_no HM.out HS.out m1 m2 HP.out, rfl, HG2.out⟩
      · have HP := hid hp
        clear hp
        go_wp2_with fail
        refine (HC.out m _ (by omega) (by omega) HG.out).mono ?_
        rw [HP.out]
        rintro e w2 ⟨rfl, g2⟩
        have HG2 := hid (gr_then HG.out g2)
        clear g2 hdv hdv' hw1
        go_wp2
        go_roundg ((m - l).toNat + 1)
        case measure => have := HGK.out; omega
        case rel => exact ⟨l, m, rfl, rfl, search_yes HS.out m1 m2 HP.out, rfl, HG2.out⟩
    · have HL := hid (HE.out l (search_end HS.out hlt))
      go_wp2
      go_ret
      exact ⟨by rw [HL.out]; rfl, HG.out⟩
end Go.Proofs.Ytmnfainepmnpeaa
