/- WayOf of the model, walked. -/
import Derived.Test.YtbbacodhklanjaaWay1
namespace Go.Proofs.Ytbbacodhklanjaa
open Go.RowKit

theorem made1 (w : World) (o : Obj) (E : TypeId) : ((w.alloc o).alloc (.cells #[] E)).ownsRow (w.heap.size + 1) E 1 (.slice (some ⟨w.heap.size + 1, 0, none⟩) 0 0) 0 [] := by
  have h := World.ownsRow_made (base := w.heap.size + 1) (e := E) (size := 1) (w.alloc o) #[] 0 (by simp) (by unfold maxLen; omega) rfl
  simpa using h
set_option maxHeartbeats 1000000 in
theorem sWayOf_any {u v : Value} {ps : List (Int × Int)} {xs : List Int} (k : Int) (w : World) (hu : Pairs w u ps) (hv : Ints w v xs) :
    Calls Try.prog 51 #[.agg #[u, v], .int .i64 k] w (RetI 3 w (wayV ps xs k)) := by
  have HU := hid hu
  have HV := hid hv
  obtain ⟨_, a, cap, rfl, _, _, hat⟩ := hu
  obtain ⟨hxb, a', cap', rfl, hcap', hmax', hat'⟩ := hv
  unfold maxLen at hmax'
  clear hat
  cases hb : chainB ps xs && inB k 0 ((ps.length : Int) - 1)
  · have HE : Hid (wayV ps xs k = []) := by simp [wayV, hb, Hid]
    have HB := hid hb
    clear hb hat'
    have hown0 := made1 w (.cells #[.slice a ps.length cap, .slice a' xs.length cap'] 52) 3
    cases hc : chainB ps xs
    · have HB2 := hid hc
      clear hc
      go_enter Try.func51, Try.ntmps51
      go_wp2_with fail
      refine (sChainOk_any _ (HU.out.on (gr_alloc (gr_alloc (gr_refl _ _) _) _)) (HV.out.on (gr_alloc (gr_alloc (gr_refl _ _) _) _))).mono ?_
      rw [HB2.out]
      rintro e w1 ⟨rfl, g1⟩
      have hown1 := hid (World.ownsRow.kept hown0 g1 (.inr (by simp [Value.ownBlock])))
      clear hown0
      go_wp2
      go_ret
      exact ⟨_, rfl, OwnI.mono (B := w.heap.size + 1) ⟨by simp [HE.out], by rw [HE.out]; exact hown1.out⟩ (Nat.le_succ _), gr_then (gr_alloc (gr_alloc (gr_refl _ _) _) _) g1⟩
    · have hk : inB k 0 ((xs.length : Int) - 1) = false := by
        have := HB.out
        rw [hc, Bool.true_and] at this
        rw [(chainB_parts hc).2.1]; exact this
      have HB2 := hid hc
      have HK := hid hk
      clear hc hk
      go_enter Try.func51, Try.ntmps51
      go_wp2_with fail
      refine (sChainOk_any _ (HU.out.on (gr_alloc (gr_alloc (gr_refl _ _) _) _)) (HV.out.on (gr_alloc (gr_alloc (gr_refl _ _) _) _))).mono ?_
      rw [HB2.out]
      rintro e w1 ⟨rfl, g1⟩
      have k1 := (gr_cell g1 w.heap.size 1 (by simp; omega)).trans (by simp [go_sem] : _ = some (Value.slice a' xs.length cap'))
      have hown1 := hid (World.ownsRow.kept hown0 g1 (.inr (by simp [Value.ownBlock])))
      clear hown0
      go_wp2_with (go_at_call 58; refine (l01In_any _ _ _ _).mono ?_; rw [HK.out]; rintro e w' ⟨rfl, rfl⟩)
      go_ret
      exact ⟨_, rfl, OwnI.mono (B := w.heap.size + 1) ⟨by simp [HE.out], by rw [HE.out]; exact hown1.out⟩ (Nat.le_succ _), gr_then (gr_alloc (gr_alloc (gr_refl _ _) _) _) g1⟩
  · have hb' := hb
    simp only [Bool.and_eq_true] at hb'
    obtain ⟨hc, hk⟩ := hb'
    have hkb := inB_true hk
    obtain ⟨n, rfl⟩ := Int.eq_ofNat_of_zero_le hkb.1
    obtain ⟨hn, hl, -, -, -⟩ := chainB_parts hc
    have HE : Hid (wayV ps xs n = wayTo xs n xs.length) := by simp [wayV, hb, Hid]
    have HB := hid hb
    have HR := hid (way_range hc (k := n) (by omega))
    have HZ := hid (way_ends hc n)
    have hxl : xs.length ≤ 10 := by omega
    obtain ⟨i0, hi, hz0, hz1, hz2⟩ := info_parts info_int
    have HK : Hid (inB n 0 ((xs.length : Int) - 1) = true) := by rw [hl]; exact hid hk
    have HB2 := hid hc
    have hown0 := made1 w (.cells #[.slice a ps.length cap, .slice a' xs.length cap'] 52) 3
    clear hb hc hk hn hl hkb
    go_enter Try.func51, Try.ntmps51
    go_wp2_with fail
    refine (sChainOk_any _ (HU.out.on (gr_alloc (gr_alloc (gr_refl _ _) _) _)) (HV.out.on (gr_alloc (gr_alloc (gr_refl _ _) _) _))).mono ?_
    rw [HB2.out]
    rintro e w1 ⟨rfl, g1⟩
    have HOW1 := hid (World.ownsRow.kept hown0 g1 (.inr (by simp [Value.ownBlock])))
    clear hown0
    have k1 := (gr_cell g1 w.heap.size 1 (by simp; omega)).trans (by simp [go_sem] : _ = some (Value.slice a' xs.length cap'))
    have G1 : Gr w w1 none := gr_then (gr_alloc (gr_alloc (gr_refl _ _) _) _) g1
    have z1 := gr_le g1
    simp only [World.size_alloc] at z1
    clear g1
    go_wp2_with (go_at_call 58; refine (l01In_any _ _ _ _).mono ?_; rw [HK.out]; rintro e w' ⟨rfl, rfl⟩)
    go_loopw [1, 5] (fun c o wr => ∃ t : Nat, t ≤ xs.length ∧ c = .int .i64 (wayAt xs n t) ∧ (wayTo xs n t).length = t ∧ wr.ownsRow (w.heap.size + 1) 3 1 o t ((wayTo xs n t).map (Value.int .i64)) ∧ wr.cell? ⟨w.heap.size, 1, none⟩ = some (.slice a' xs.length cap') ∧ Gr w wr none ∧ w.heap.size < wr.heap.size) (fun _ o _ => xs.length - lenOf o)
    case atStart => exact ⟨0, Nat.zero_le _, rfl, rfl, HOW1.out, k1, G1, by omega⟩
    case round =>
      obtain ⟨t, ht, rfl, hlen, hown, hcv, hg, hsz⟩ := hrel
      have HL := hid hlen
      clear hlen k1 G1
      by_cases h0 : 0 ≤ wayAt xs n t
      · have hr := HR.out t
        have hlt : t < xs.length := by
          by_cases e : t = xs.length
          · rw [e] at h0 hr; exact absurd ⟨h0, hr⟩ HZ.out
          · omega
        have E : Hid (wayTo xs n (t + 1) = wayTo xs n t ++ [wayAt xs n t]) := by rw [wayTo, if_pos h0]; exact hid rfl
        obtain ⟨q, hq⟩ := Int.eq_ofNat_of_zero_le h0
        have HN : Hid (wayAt xs n (t + 1) = gi xs q) := by
          show nx xs (wayAt xs n t) = _
          rw [hq] at hr ⊢; exact if_pos ⟨by omega, hr⟩
        rw [hq] at hr E
        have hqx : q < xs.length := by omega
        obtain ⟨b, off, rfl, hc⟩ : ∃ b off, a' = some ⟨b, off, none⟩ ∧ IntsAt w b off xs := by
          rcases hat' with h0 | h0
          · subst h0; simp at hqx
          · exact h0
        have HCE := hid hc
        have lo := lenOf_owns hown
        have HLO := hid lo
        clear hat' hc h0 lo
        rw [hq]
        clear hq
        go_wp2_with (at_builtin; refine wpList_append_own _ rfl _ _ 40 rfl (w.heap.size + 1) 3 i0 (.int .i64 0) 1 8 Try.underlying40 hi hz0 hz1 hz2 rfl (by decide) _ _ _ rfl (hown.alloc _) ⟨wr.heap.size, 0, none⟩ 1 1 [.int .i64 q] rfl rfl (new_one _ _ _) (one_int _) (by unfold maxLen; omega) (by omega) (by simp; omega) ?_)
        intro v' w3 hown' hgrow _
        have hg3 := gr_append hg hown (by omega) hgrow
        have hne : u5.ownBlock ≠ some w.heap.size := fun e => by have := hown.lt _ e; omega
        have hcv3 : w3.cell? ⟨w.heap.size, 1, none⟩ = some (.slice (some ⟨b, off, none⟩) xs.length cap') := World.grownBy.cell (a := ⟨w.heap.size, 1, none⟩) hgrow (by rw [World.cell?_alloc_lt _ _ _ (by simp; omega)]; exact hcv) (Ne.symm hne)
        have hcell := HCE.out.kept hg3 (by simp) q hqx
        have hsz3 : w.heap.size < w3.heap.size := by have := hgrow.size; simp at this; omega
        have HO := hid hown'
        have HLO' := hid (lenOf_owns hown')
        clear hown' hgrow hown hcv hg hsz hne
        go_wp2
        go_roundw
        case rel => exact ⟨t + 1, by omega, by rw [HN.out], by rw [E.out, List.length_append, HL.out]; rfl, by rw [E.out, List.map_append]; exact HO.out, hcv3, hg3, hsz3⟩
        case measure => simp [HLO.out, HLO'.out]; omega
      · have HF : Hid (wayTo xs n xs.length = wayTo xs n t) := wayTo_stop h0 _ ht
        have hneg : wayAt xs n t < 0 := by omega
        have HO : Hid (OwnI 3 wr (w.heap.size + 1) u5 (wayV ps xs n)) := ⟨fun x hx => by
            rw [HE.out] at hx
            have := wayTo_bd HR.out xs.length x hx
            unfold I64; omega, by rw [HE.out, HF.out, HL.out]; exact hown⟩
        clear hown hat' h0
        go_wp2
        go_ret
        exact ⟨_, rfl, HO.out.mono (Nat.le_succ _), hg⟩
end Go.Proofs.Ytbbacodhklanjaa
