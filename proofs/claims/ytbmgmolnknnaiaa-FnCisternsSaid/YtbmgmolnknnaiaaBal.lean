/- The balance of two cisterns. -/
import Derived.Test.YtbmgmolnknnaiaaCist2
import Derived.Test.YtbmgmolnknnaiaaBoxes
import Derived.Deep.RegionHeld3
namespace Go.Proofs.Ytbmgmolnknnaiaa
open Go.RowKit

/-- The water that is moved, -1 where an argument is out of range. -/
def balOk (r l s m x : Int) : Bool := cistB r l && cistB s m && inB x 0 1000000
def balN (r l s m x : Int) : Int := if balOk r l s m x then min x (min l (s - m)) else -1
def balA (r l s m x : Int) : Int := if balOk r l s m x then l - balN r l s m x else l
def balB (r l s m x : Int) : Int := if balOk r l s m x then m + balN r l s m x else m
theorem bal_no {r l s m x : Int} (h : balOk r l s m x = false) : balN r l s m x = -1 ∧ balA r l s m x = l ∧ balB r l s m x = m := by
  refine ⟨by rw [balN, h]; rfl, by rw [balA, h]; rfl, by rw [balB, h]; rfl⟩
theorem bal_yes {r l s m x n : Int} (h : balOk r l s m x = true) (hn : min x (min l (s - m)) = n) : balN r l s m x = n ∧ balA r l s m x = l - n ∧ balB r l s m x = m + n := by
  have e : balN r l s m x = n := by rw [balN, h, if_pos rfl, hn]
  exact ⟨e, by rw [balA, h, if_pos rfl, e], by rw [balB, h, if_pos rfl, e]⟩
theorem cisternOkX (r l : Int) (w : World) :
    Calls Try.prog 16 #[.agg #[.int .i64 r, .int .i64 l]] w fun e w' => e = .returned (.bool (cistB r l)) ∧ w.alloc (.cells #[.int .i64 r, .int .i64 l] 24) = w' := by
  unfold cistB
  go_enter Try.func16, Try.ntmps16
  go_wp2_with (go_at_call 29; refine (within_any _ _ _ _).mono ?_; rintro e w' ⟨rfl, rfl⟩)
  all_goals go_ret
  · exact ⟨by simp [*], rfl⟩
  · exact ⟨by simp [*], rfl⟩
theorem sCisternOkX (r l : Int) (w : World) :
    Calls Try.prog 27 #[.agg #[.int .i64 r, .int .i64 l]] w fun e w' => e = .returned (.bool (cistB r l)) ∧ w.alloc (.cells #[.int .i64 r, .int .i64 l] 24) = w' := by
  unfold cistB
  go_enter Try.func27, Try.ntmps27
  go_wp2_with (go_at_call 36; refine (l01In_any _ _ _ _).mono ?_; rintro e w' ⟨rfl, rfl⟩)
  all_goals go_ret
  · exact ⟨by simp [*], rfl⟩
  · exact ⟨by simp [*], rfl⟩
set_option maxHeartbeats 2000000 in
theorem balance_any (r l s m x : Int) (w : World) :
    Calls Try.prog 8 #[.agg #[.int .i64 r, .int .i64 l], .agg #[.int .i64 s, .int .i64 m], .int .i64 x] w fun e w' =>
      e = .returned (.tuple #[.agg #[.int .i64 r, .int .i64 (balA r l s m x)], .agg #[.int .i64 s, .int .i64 (balB r l s m x)], .int .i64 (balN r l s m x)]) ∧ Gr w w' none := by
  by_cases hok : balOk r l s m x = true
  case neg =>
    have hok' : balOk r l s m x = false := by simpa using hok
    obtain ⟨e1, e2, e3⟩ := bal_no hok'
    rw [e1, e2, e3]
    clear e1 e2 e3 hok
    cases h1 : cistB r l <;> cases h2 : cistB s m <;> cases h3 : inB x 0 1000000
    case true.true.true => rw [balOk, h1, h2, h3] at hok'; exact absurd hok' (by decide)
    all_goals
      clear hok'
      go_enter Try.func8, Try.ntmps8
      go_wp2_with (first | (go_at_call 16; refine (cisternOkX _ _ _).mono ?_; rintro e w' ⟨rfl, rfl⟩) | (go_at_call 29; refine (within0_any _ _).mono ?_; rintro e w' ⟨rfl, rfl⟩))
      go_region
      all_goals go_wp2
      all_goals refine bodyPost_ret (v := .tuple #[.agg #[.int .i64 r, .int .i64 l], .agg #[.int .i64 s, .int .i64 m], .int .i64 (-1)]) (by simp [results, Try.results8, go_sem]) rfl ⟨rfl, (by repeat (first | (with_reducible exact gr_refl _ _) | (with_reducible assumption) | (with_reducible refine gr_drew ?_) | (with_reducible refine gr_drewN ?_ _) | (with_reducible refine gr_alloc ?_ _) | (with_reducible refine gr_set ?_ (.inr (by simp; done)) _) | (with_reducible refine gr_set ?_ (.inr (by simp; omega)) _) | (with_reducible refine gr_then ?_ (by with_reducible assumption))))⟩
  case pos =>
    have h123 : cistB r l = true ∧ cistB s m = true ∧ inB x 0 1000000 = true := by
      rw [balOk] at hok
      simp only [Bool.and_eq_true] at hok
      exact ⟨hok.1.1, hok.1.2, hok.2⟩
    obtain ⟨h1, h2, h3⟩ := h123
    obtain ⟨⟨b1, b2⟩, b3, b4⟩ := cistB_true h1
    obtain ⟨⟨b5, b6⟩, b7, b8⟩ := cistB_true h2
    obtain ⟨b9, b10⟩ := inB_true h3
    by_cases c1 : s - m < l
    · by_cases c2 : s - m < x
      · obtain ⟨e1, e2, e3⟩ := bal_yes hok (n := s - m) (by omega)
        rw [e1, e2, e3]
        have q : m + (s - m) = s := by omega
        clear e1 e2 e3 hok
        go_enter Try.func8, Try.ntmps8
        go_wp2_with (first | (go_at_call 16; refine (cisternOkX _ _ _).mono ?_; rintro e w' ⟨rfl, rfl⟩) | (go_at_call 29; refine (within0_any _ _).mono ?_; rintro e w' ⟨rfl, rfl⟩))
        all_goals go_region
        all_goals go_wp2
        all_goals refine bodyPost_ret (v := .tuple #[.agg #[.int .i64 r, .int .i64 (l - (s - m))], .agg #[.int .i64 s, .int .i64 s], .int .i64 (s - m)]) (by simp [results, Try.results8, go_sem]) rfl ⟨by rw [q], (by repeat (first | (with_reducible exact gr_refl _ _) | (with_reducible assumption) | (with_reducible refine gr_drew ?_) | (with_reducible refine gr_drewN ?_ _) | (with_reducible refine gr_alloc ?_ _) | (with_reducible refine gr_set ?_ (.inr (by simp; done)) _) | (with_reducible refine gr_set ?_ (.inr (by simp; omega)) _) | (with_reducible refine gr_then ?_ (by with_reducible assumption))))⟩
      · obtain ⟨e1, e2, e3⟩ := bal_yes hok (n := x) (by omega)
        rw [e1, e2, e3]
        have c4 : x ≤ l := by omega
        clear e1 e2 e3 hok
        go_enter Try.func8, Try.ntmps8
        go_wp2_with (first | (go_at_call 16; refine (cisternOkX _ _ _).mono ?_; rintro e w' ⟨rfl, rfl⟩) | (go_at_call 29; refine (within0_any _ _).mono ?_; rintro e w' ⟨rfl, rfl⟩))
        all_goals go_region
        all_goals go_wp2
        all_goals refine bodyPost_ret (v := .tuple #[.agg #[.int .i64 r, .int .i64 (l - x)], .agg #[.int .i64 s, .int .i64 (m + x)], .int .i64 x]) (by simp [results, Try.results8, go_sem]) rfl ⟨rfl, (by repeat (first | (with_reducible exact gr_refl _ _) | (with_reducible assumption) | (with_reducible refine gr_drew ?_) | (with_reducible refine gr_drewN ?_ _) | (with_reducible refine gr_alloc ?_ _) | (with_reducible refine gr_set ?_ (.inr (by simp; done)) _) | (with_reducible refine gr_set ?_ (.inr (by simp; omega)) _) | (with_reducible refine gr_then ?_ (by with_reducible assumption))))⟩
    · by_cases c2 : l < x
      · obtain ⟨e1, e2, e3⟩ := bal_yes hok (n := l) (by omega)
        rw [e1, e2, e3]
        have q : l - l = 0 := by omega
        clear e1 e2 e3 hok
        go_enter Try.func8, Try.ntmps8
        go_wp2_with (first | (go_at_call 16; refine (cisternOkX _ _ _).mono ?_; rintro e w' ⟨rfl, rfl⟩) | (go_at_call 29; refine (within0_any _ _).mono ?_; rintro e w' ⟨rfl, rfl⟩))
        all_goals go_region
        all_goals go_wp2
        all_goals refine bodyPost_ret (v := .tuple #[.agg #[.int .i64 r, .int .i64 0], .agg #[.int .i64 s, .int .i64 (m + l)], .int .i64 l]) (by simp [results, Try.results8, go_sem]) rfl ⟨by rw [q], (by repeat (first | (with_reducible exact gr_refl _ _) | (with_reducible assumption) | (with_reducible refine gr_drew ?_) | (with_reducible refine gr_drewN ?_ _) | (with_reducible refine gr_alloc ?_ _) | (with_reducible refine gr_set ?_ (.inr (by simp; done)) _) | (with_reducible refine gr_set ?_ (.inr (by simp; omega)) _) | (with_reducible refine gr_then ?_ (by with_reducible assumption))))⟩
      · obtain ⟨e1, e2, e3⟩ := bal_yes hok (n := x) (by omega)
        rw [e1, e2, e3]
        have c4 : x ≤ s - m := by omega
        clear e1 e2 e3 hok
        go_enter Try.func8, Try.ntmps8
        go_wp2_with (first | (go_at_call 16; refine (cisternOkX _ _ _).mono ?_; rintro e w' ⟨rfl, rfl⟩) | (go_at_call 29; refine (within0_any _ _).mono ?_; rintro e w' ⟨rfl, rfl⟩))
        all_goals go_region
        all_goals go_wp2
        all_goals refine bodyPost_ret (v := .tuple #[.agg #[.int .i64 r, .int .i64 (l - x)], .agg #[.int .i64 s, .int .i64 (m + x)], .int .i64 x]) (by simp [results, Try.results8, go_sem]) rfl ⟨rfl, (by repeat (first | (with_reducible exact gr_refl _ _) | (with_reducible assumption) | (with_reducible refine gr_drew ?_) | (with_reducible refine gr_drewN ?_ _) | (with_reducible refine gr_alloc ?_ _) | (with_reducible refine gr_set ?_ (.inr (by simp; done)) _) | (with_reducible refine gr_set ?_ (.inr (by simp; omega)) _) | (with_reducible refine gr_then ?_ (by with_reducible assumption))))⟩
set_option maxHeartbeats 2000000 in
theorem sBalance_any (r l s m x : Int) (w : World) :
    Calls Try.prog 6 #[.agg #[.int .i64 r, .int .i64 l], .agg #[.int .i64 s, .int .i64 m], .int .i64 x] w fun e w' =>
      e = .returned (.tuple #[.agg #[.int .i64 r, .int .i64 (balA r l s m x)], .agg #[.int .i64 s, .int .i64 (balB r l s m x)], .int .i64 (balN r l s m x)]) ∧ Gr w w' none := by
  by_cases hok : balOk r l s m x = true
  case neg =>
    have hok' : balOk r l s m x = false := by simpa using hok
    obtain ⟨e1, e2, e3⟩ := bal_no hok'
    rw [e1, e2, e3]
    clear e1 e2 e3 hok
    cases h1 : cistB r l <;> cases h2 : cistB s m <;> cases h3 : inB x 0 1000000
    case true.true.true => rw [balOk, h1, h2, h3] at hok'; exact absurd hok' (by decide)
    all_goals
      clear hok'
      go_enter Try.func6, Try.ntmps6
      go_wp2_with (first | (go_at_call 27; refine (sCisternOkX _ _ _).mono ?_; rintro e w' ⟨rfl, rfl⟩) | (go_at_call 28; refine (l04Water_any _ _).mono ?_; rintro e w' ⟨rfl, rfl⟩))
      go_region
      all_goals go_wp2
      all_goals refine bodyPost_ret (v := .tuple #[.agg #[.int .i64 r, .int .i64 l], .agg #[.int .i64 s, .int .i64 m], .int .i64 (-1)]) (by simp [results, Try.results6, go_sem]) rfl ⟨rfl, (by repeat (first | (with_reducible exact gr_refl _ _) | (with_reducible assumption) | (with_reducible refine gr_drew ?_) | (with_reducible refine gr_drewN ?_ _) | (with_reducible refine gr_alloc ?_ _) | (with_reducible refine gr_set ?_ (.inr (by simp; done)) _) | (with_reducible refine gr_set ?_ (.inr (by simp; omega)) _) | (with_reducible refine gr_then ?_ (by with_reducible assumption))))⟩
  case pos =>
    have h123 : cistB r l = true ∧ cistB s m = true ∧ inB x 0 1000000 = true := by
      rw [balOk] at hok
      simp only [Bool.and_eq_true] at hok
      exact ⟨hok.1.1, hok.1.2, hok.2⟩
    obtain ⟨h1, h2, h3⟩ := h123
    obtain ⟨⟨b1, b2⟩, b3, b4⟩ := cistB_true h1
    obtain ⟨⟨b5, b6⟩, b7, b8⟩ := cistB_true h2
    obtain ⟨b9, b10⟩ := inB_true h3
    by_cases c1 : s - m < l
    · by_cases c2 : s - m < x
      · obtain ⟨e1, e2, e3⟩ := bal_yes hok (n := s - m) (by omega)
        rw [e1, e2, e3]
        have q : m + (s - m) = s := by omega
        clear e1 e2 e3 hok
        go_enter Try.func6, Try.ntmps6
        go_wp2_with (first | (go_at_call 27; refine (sCisternOkX _ _ _).mono ?_; rintro e w' ⟨rfl, rfl⟩) | (go_at_call 28; refine (l04Water_any _ _).mono ?_; rintro e w' ⟨rfl, rfl⟩))
        all_goals go_region
        all_goals go_wp2
        all_goals refine bodyPost_ret (v := .tuple #[.agg #[.int .i64 r, .int .i64 (l - (s - m))], .agg #[.int .i64 s, .int .i64 s], .int .i64 (s - m)]) (by simp [results, Try.results6, go_sem]) rfl ⟨by rw [q], (by repeat (first | (with_reducible exact gr_refl _ _) | (with_reducible assumption) | (with_reducible refine gr_drew ?_) | (with_reducible refine gr_drewN ?_ _) | (with_reducible refine gr_alloc ?_ _) | (with_reducible refine gr_set ?_ (.inr (by simp; done)) _) | (with_reducible refine gr_set ?_ (.inr (by simp; omega)) _) | (with_reducible refine gr_then ?_ (by with_reducible assumption))))⟩
      · obtain ⟨e1, e2, e3⟩ := bal_yes hok (n := x) (by omega)
        rw [e1, e2, e3]
        have c4 : x ≤ l := by omega
        clear e1 e2 e3 hok
        go_enter Try.func6, Try.ntmps6
        go_wp2_with (first | (go_at_call 27; refine (sCisternOkX _ _ _).mono ?_; rintro e w' ⟨rfl, rfl⟩) | (go_at_call 28; refine (l04Water_any _ _).mono ?_; rintro e w' ⟨rfl, rfl⟩))
        all_goals go_region
        all_goals go_wp2
        all_goals refine bodyPost_ret (v := .tuple #[.agg #[.int .i64 r, .int .i64 (l - x)], .agg #[.int .i64 s, .int .i64 (m + x)], .int .i64 x]) (by simp [results, Try.results6, go_sem]) rfl ⟨rfl, (by repeat (first | (with_reducible exact gr_refl _ _) | (with_reducible assumption) | (with_reducible refine gr_drew ?_) | (with_reducible refine gr_drewN ?_ _) | (with_reducible refine gr_alloc ?_ _) | (with_reducible refine gr_set ?_ (.inr (by simp; done)) _) | (with_reducible refine gr_set ?_ (.inr (by simp; omega)) _) | (with_reducible refine gr_then ?_ (by with_reducible assumption))))⟩
    · by_cases c2 : l < x
      · obtain ⟨e1, e2, e3⟩ := bal_yes hok (n := l) (by omega)
        rw [e1, e2, e3]
        have q : l - l = 0 := by omega
        clear e1 e2 e3 hok
        go_enter Try.func6, Try.ntmps6
        go_wp2_with (first | (go_at_call 27; refine (sCisternOkX _ _ _).mono ?_; rintro e w' ⟨rfl, rfl⟩) | (go_at_call 28; refine (l04Water_any _ _).mono ?_; rintro e w' ⟨rfl, rfl⟩))
        all_goals go_region
        all_goals go_wp2
        all_goals refine bodyPost_ret (v := .tuple #[.agg #[.int .i64 r, .int .i64 0], .agg #[.int .i64 s, .int .i64 (m + l)], .int .i64 l]) (by simp [results, Try.results6, go_sem]) rfl ⟨by rw [q], (by repeat (first | (with_reducible exact gr_refl _ _) | (with_reducible assumption) | (with_reducible refine gr_drew ?_) | (with_reducible refine gr_drewN ?_ _) | (with_reducible refine gr_alloc ?_ _) | (with_reducible refine gr_set ?_ (.inr (by simp; done)) _) | (with_reducible refine gr_set ?_ (.inr (by simp; omega)) _) | (with_reducible refine gr_then ?_ (by with_reducible assumption))))⟩
      · obtain ⟨e1, e2, e3⟩ := bal_yes hok (n := x) (by omega)
        rw [e1, e2, e3]
        have c4 : x ≤ s - m := by omega
        clear e1 e2 e3 hok
        go_enter Try.func6, Try.ntmps6
        go_wp2_with (first | (go_at_call 27; refine (sCisternOkX _ _ _).mono ?_; rintro e w' ⟨rfl, rfl⟩) | (go_at_call 28; refine (l04Water_any _ _).mono ?_; rintro e w' ⟨rfl, rfl⟩))
        all_goals go_region
        all_goals go_wp2
        all_goals refine bodyPost_ret (v := .tuple #[.agg #[.int .i64 r, .int .i64 (l - x)], .agg #[.int .i64 s, .int .i64 (m + x)], .int .i64 x]) (by simp [results, Try.results6, go_sem]) rfl ⟨rfl, (by repeat (first | (with_reducible exact gr_refl _ _) | (with_reducible assumption) | (with_reducible refine gr_drew ?_) | (with_reducible refine gr_drewN ?_ _) | (with_reducible refine gr_alloc ?_ _) | (with_reducible refine gr_set ?_ (.inr (by simp; done)) _) | (with_reducible refine gr_set ?_ (.inr (by simp; omega)) _) | (with_reducible refine gr_then ?_ (by with_reducible assumption))))⟩
end Go.Proofs.Ytbmgmolnknnaiaa
