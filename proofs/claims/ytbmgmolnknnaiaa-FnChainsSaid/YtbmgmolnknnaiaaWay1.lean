/- WayOf of the program, walked. -/
import Derived.Test.YtbmgmolnknnaiaaWay
namespace Go.Proofs.Ytbmgmolnknnaiaa
open Go.RowKit

theorem way_range {ps : List (Int × Int)} {xs : List Int} (hc : chainB ps xs = true) {k : Nat} (hk : k < xs.length) : ∀ t, wayAt xs k t < xs.length := by
  obtain ⟨hn, hl, ha, _, _⟩ := chainB_parts hc
  intro t
  cases t with
  | zero => show (k : Int) < _; omega
  | succ t =>
    show nx xs (wayAt xs k t) < _
    unfold nx
    split
    · have := allB_get ha (i := (wayAt xs k t).toNat) (by omega); omega
    · omega
theorem isCistern_any {u v : Value} {ps : List (Int × Int)} {xs : List Int} (k : Int) (w : World) (hu : Pairs w u ps) (hv : Ints w v xs) :
    Calls Try.prog 34 #[.agg #[u, v], .int .i64 k] w fun e w' => e = .returned (.bool (chainB ps xs && inB k 0 ((ps.length : Int) - 1))) ∧ Gr w w' none := by
  have HU := hid hu
  have HV := hid hv
  obtain ⟨_, a, cap, rfl, hcap, hmax, hat⟩ := hu
  obtain ⟨_, a', cap', rfl, _, _, hat'⟩ := hv
  unfold maxLen at hmax
  clear hat hat'
  cases hb : chainB ps xs
  · have HB := hid hb
    clear hb
    go_enter Try.func34, Try.ntmps34
    go_wp2_with fail
    refine (chainOk_any _ (HU.out.on (gr_alloc (gr_refl _ _) _)) (HV.out.on (gr_alloc (gr_refl _ _) _))).mono ?_
    rw [HB.out]
    rintro e w1 ⟨rfl, g1⟩
    go_wp2
    go_ret
    exact ⟨rfl, (by repeat (first | (with_reducible exact gr_refl _ _) | (with_reducible assumption) | (with_reducible refine gr_drew ?_) | (with_reducible refine gr_drewN ?_ _) | (with_reducible refine gr_alloc ?_ _) | (with_reducible refine gr_set ?_ (.inr (by simp; done)) _) | (with_reducible refine gr_set ?_ (.inr (by simp; omega)) _) | (with_reducible refine gr_then ?_ (by with_reducible assumption))))⟩
  · have HB := hid hb
    clear hb
    go_enter Try.func34, Try.ntmps34
    go_wp2_with fail
    refine (chainOk_any _ (HU.out.on (gr_alloc (gr_refl _ _) _)) (HV.out.on (gr_alloc (gr_refl _ _) _))).mono ?_
    rw [HB.out]
    rintro e w1 ⟨rfl, g1⟩
    have k1 := (gr_cell g1 w.heap.size 0 (by simp)).trans (by simp [go_sem] : _ = some (Value.slice a ps.length cap))
    have G1 : Gr w w1 none := gr_then (by repeat (first | (with_reducible exact gr_refl _ _) | (with_reducible assumption) | (with_reducible refine gr_drew ?_) | (with_reducible refine gr_drewN ?_ _) | (with_reducible refine gr_alloc ?_ _) | (with_reducible refine gr_set ?_ (.inr (by simp; done)) _) | (with_reducible refine gr_set ?_ (.inr (by simp; omega)) _) | (with_reducible refine gr_then ?_ (by with_reducible assumption)))) g1
    clear g1
    go_wp2_with (go_at_call 29; refine (within_any _ _ _ _).mono ?_; rintro e w' ⟨rfl, rfl⟩)
    go_ret
    exact ⟨by simp, G1⟩
theorem wayTo_bd {xs : List Int} {k : Nat} (h : ∀ t, wayAt xs k t < xs.length) : ∀ t, ∀ x ∈ wayTo xs k t, 0 ≤ x ∧ x < xs.length := by
  intro t
  induction t with
  | zero => intro x hx; simp [wayTo] at hx
  | succ t ih =>
    intro x hx
    unfold wayTo at hx
    split at hx
    · rcases List.mem_append.1 hx with h1 | h1
      · exact ih x h1
      · simp at h1; subst h1; exact ⟨by assumption, h t⟩
    · exact ih x hx
def lenOf : Value → Nat
  | .slice _ n _ => n
  | _ => 0
theorem lenOf_owns {w : World} {B : Nat} {E : TypeId} {s n : Nat} {v : Value} {xs : List Value} (h : w.ownsRow B E s v n xs) : lenOf v = n := by
  rcases h.2 with ⟨rfl, h0⟩ | ⟨g, cap, cur, rfl, _⟩
  · exact h0.symm
  · rfl
set_option maxHeartbeats 1000000 in
theorem wayOf_any {u v : Value} {ps : List (Int × Int)} {xs : List Int} (k : Int) (w : World) (hu : Pairs w u ps) (hv : Ints w v xs) :
    Calls Try.prog 22 #[.agg #[u, v], .int .i64 k] w (RetI 3 w (wayV ps xs k)) := by
  have HU := hid hu
  have HV := hid hv
  obtain ⟨_, a, cap, rfl, _, _, hat⟩ := hu
  obtain ⟨hxb, a', cap', rfl, hcap', hmax', hat'⟩ := hv
  unfold maxLen at hmax'
  clear hat
  cases hb : chainB ps xs && inB k 0 ((ps.length : Int) - 1)
  · have HE : Hid (wayV ps xs k = []) := by simp [wayV, hb, Hid]
    have HB := hid hb
    clear hb hat'
    go_enter Try.func22, Try.ntmps22
    go_wp2_with fail
    refine (isCistern_any _ _ (HU.out.on (gr_alloc (gr_refl _ _) _)) (HV.out.on (gr_alloc (gr_refl _ _) _))).mono ?_
    rw [HB.out]
    rintro e w1 ⟨rfl, g1⟩
    go_wp2
    go_ret
    exact ⟨_, rfl, ⟨by simp [HE.out], by rw [HE.out]; exact World.ownsRow_nil _ _ _ _⟩, (by repeat (first | (with_reducible exact gr_refl _ _) | (with_reducible assumption) | (with_reducible refine gr_drew ?_) | (with_reducible refine gr_drewN ?_ _) | (with_reducible refine gr_alloc ?_ _) | (with_reducible refine gr_set ?_ (.inr (by simp; done)) _) | (with_reducible refine gr_set ?_ (.inr (by simp; omega)) _) | (with_reducible refine gr_then ?_ (by with_reducible assumption))))⟩
  · have hb' := hb
    simp only [Bool.and_eq_true] at hb'
    obtain ⟨hc, hk⟩ := hb'
    have hkb := inB_true hk
    obtain ⟨n, rfl⟩ := Int.eq_ofNat_of_zero_le hkb.1
    obtain ⟨hn, hl, -, -, -⟩ := chainB_parts hc
    have HE : Hid (wayV ps xs n = wayTo xs n xs.length) := by simp [wayV, hb, Hid]
    have HB := hid hb
    have HR := hid (way_range hc (k := n) (by omega))
    have HZ := hid (way_ends hc n)
    have hxl : xs.length ≤ 10 := by omega
    obtain ⟨i0, hi, hz0, hz1, hz2⟩ := info_parts info_int
    clear hb hc hk hn hl hkb
    go_enter Try.func22, Try.ntmps22
    go_wp2_with fail
    refine (isCistern_any _ _ (HU.out.on (gr_alloc (gr_refl _ _) _)) (HV.out.on (gr_alloc (gr_refl _ _) _))).mono ?_
    rw [HB.out]
    rintro e w1 ⟨rfl, g1⟩
    have k1 := (gr_cell g1 w.heap.size 1 (by simp)).trans (by simp [go_sem] : _ = some (Value.slice a' xs.length cap'))
    have G1 : Gr w w1 none := gr_then (by repeat (first | (with_reducible exact gr_refl _ _) | (with_reducible assumption) | (with_reducible refine gr_drew ?_) | (with_reducible refine gr_drewN ?_ _) | (with_reducible refine gr_alloc ?_ _) | (with_reducible refine gr_set ?_ (.inr (by simp; done)) _) | (with_reducible refine gr_set ?_ (.inr (by simp; omega)) _) | (with_reducible refine gr_then ?_ (by with_reducible assumption)))) g1
    have z1 := gr_le g1
    simp only [World.size_alloc] at z1
    clear g1
    go_wp2_with fail
    go_loopw [1, 5] (fun c o wr => ∃ t : Nat, t ≤ xs.length ∧ c = .int .i64 (wayAt xs n t) ∧ (wayTo xs n t).length = t ∧ wr.ownsRow (w.heap.size + 1) 3 1 o t ((wayTo xs n t).map (Value.int .i64)) ∧ wr.cell? ⟨w.heap.size, 1, none⟩ = some (.slice a' xs.length cap') ∧ Gr w wr none ∧ w.heap.size < wr.heap.size) (fun _ o _ => xs.length - lenOf o)
    case atStart => exact ⟨0, Nat.zero_le _, rfl, rfl, World.ownsRow_nil _ _ _ _, k1, G1, by omega⟩
    case round =>
      obtain ⟨t, ht, rfl, hlen, hown, hcv, hg, hsz⟩ := hrel
      have HL := hid hlen
      clear hlen k1 G1
      by_cases h0 : 0 ≤ wayAt xs n t
      · have hr := HR.out t
        have hlt : t < xs.length := by
          by_cases e : t = xs.length
          · rw [e] at h0 hr; exact absurd ⟨h0, hr⟩ HZ.out
          · omega
        have E : Hid (wayTo xs n (t + 1) = wayTo xs n t ++ [wayAt xs n t]) := by rw [wayTo, if_pos h0]; exact hid rfl
        obtain ⟨q, hq⟩ := Int.eq_ofNat_of_zero_le h0
        have HN : Hid (wayAt xs n (t + 1) = gi xs q) := by
          show nx xs (wayAt xs n t) = _
          rw [hq] at hr ⊢; exact if_pos ⟨by omega, hr⟩
        rw [hq] at hr E
        have hqx : q < xs.length := by omega
        obtain ⟨b, off, rfl, hc⟩ : ∃ b off, a' = some ⟨b, off, none⟩ ∧ IntsAt w b off xs := by
          rcases hat' with h0 | h0
          · subst h0; simp at hqx
          · exact h0
        have HCE := hid hc
        have lo := lenOf_owns hown
        have HLO := hid lo
        clear hat' hc h0 lo
        rw [hq]
        clear hq
        go_wp2_with (at_builtin; refine wpList_append_own _ rfl _ _ 39 rfl (w.heap.size + 1) 3 i0 (.int .i64 0) 1 8 Try.underlying39 hi hz0 hz1 hz2 rfl (by decide) _ _ _ rfl (hown.alloc _) ⟨wr.heap.size, 0, none⟩ 1 1 [.int .i64 q] rfl rfl (new_one _ _ _) (one_int _) (by unfold maxLen; omega) (by omega) (by simp; omega) ?_)
        intro v' w3 hown' hgrow _
        have hg3 := gr_append hg hown (by omega) hgrow
        have hne : u5.ownBlock ≠ some w.heap.size := fun e => by have := hown.lt _ e; omega
        have hcv3 : w3.cell? ⟨w.heap.size, 1, none⟩ = some (.slice (some ⟨b, off, none⟩) xs.length cap') := World.grownBy.cell (a := ⟨w.heap.size, 1, none⟩) hgrow (by rw [World.cell?_alloc_lt _ _ _ (by simp; omega)]; exact hcv) (Ne.symm hne)
        have hcell := HCE.out.kept hg3 (by simp) q hqx
        have hsz3 : w.heap.size < w3.heap.size := by have := hgrow.size; simp at this; omega
        have HO := hid hown'
        have HLO' := hid (lenOf_owns hown')
        clear hown' hgrow hown hcv hg hsz hne
        go_wp2
        go_roundw
        case rel => exact ⟨t + 1, by omega, by rw [HN.out], by rw [E.out, List.length_append, HL.out]; rfl, by rw [E.out, List.map_append]; exact HO.out, hcv3, hg3, hsz3⟩
        case measure => simp [HLO.out, HLO'.out]; omega
      · have HF : Hid (wayTo xs n xs.length = wayTo xs n t) := wayTo_stop h0 _ ht
        have hneg : wayAt xs n t < 0 := by omega
        have HO : Hid (OwnI 3 wr (w.heap.size + 1) u5 (wayV ps xs n)) := ⟨fun x hx => by
            rw [HE.out] at hx
            have := wayTo_bd HR.out xs.length x hx
            unfold I64; omega, by rw [HE.out, HF.out, HL.out]; exact hown⟩
        clear hown hat' h0
        go_wp2
        go_ret
        exact ⟨_, rfl, HO.out.mono (Nat.le_succ _), hg⟩
end Go.Proofs.Ytbmgmolnknnaiaa
