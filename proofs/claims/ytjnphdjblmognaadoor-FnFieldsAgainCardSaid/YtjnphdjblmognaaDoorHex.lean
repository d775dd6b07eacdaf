/- EncodeHex, walked. -/
import Derived.Test.YtjnphdjblmognaaDoorCommon
import Derived.Deep.RegionHeld3
import Derived.Deep.AppendLies
import Derived.Laws.BytesArg
namespace Go.Proofs.YtjnphdjblmognaaDoor
open Go.RowKit

/-- The figure of a number below 16. -/
def digV (d : Int) : Int := if d < 10 then 48 + d else 87 + d
/-- Byte i of a string, as a number. -/
def bt (s : ByteArray) (i : Nat) : Int := ((s.data[i]?.getD 0).toNat : Int)
theorem bt_bd (s : ByteArray) (i : Nat) : 0 ≤ bt s i ∧ bt s i ≤ 255 := by
  unfold bt
  have := (s.data[i]?.getD 0).toNat_lt
  omega
def encTo (s : ByteArray) : Nat → List Int
  | 0 => []
  | k + 1 => encTo s k ++ [digV (bt s k / 16), digV (bt s k % 16)]
theorem encTo_length (s : ByteArray) (k : Nat) : (encTo s k).length = 2 * k := by
  induction k with
  | zero => rfl
  | succ k ih => simp [encTo, ih]; omega
theorem fig_lt {q : Int} (h0 : 0 ≤ q) (h1 : q < 16) : q.toNat < ({ data := #[48, 49, 50, 51, 52, 53, 54, 55, 56, 57, 97, 98, 99, 100, 101, 102] } : ByteArray).size := by show _ < 16; omega
theorem fig_tab {q : Int} (h0 : 0 ≤ q) (h1 : q < 16) (h : q.toNat < ({ data := #[48, 49, 50, 51, 52, 53, 54, 55, 56, 57, 97, 98, 99, 100, 101, 102] } : ByteArray).size) : ((({ data := #[48, 49, 50, 51, 52, 53, 54, 55, 56, 57, 97, 98, 99, 100, 101, 102] } : ByteArray)[q.toNat]'h).toNat : Int) = digV q := by
  obtain ⟨n, rfl⟩ := Int.eq_ofNat_of_zero_le h0
  have : n = 0 ∨ n = 1 ∨ n = 2 ∨ n = 3 ∨ n = 4 ∨ n = 5 ∨ n = 6 ∨ n = 7 ∨ n = 8 ∨ n = 9 ∨ n = 10 ∨ n = 11 ∨ n = 12 ∨ n = 13 ∨ n = 14 ∨ n = 15 := by omega
  rcases this with rfl | rfl | rfl | rfl | rfl | rfl | rfl | rfl | rfl | rfl | rfl | rfl | rfl | rfl | rfl | rfl <;> rfl
theorem digV_bd {q : Int} (h0 : 0 ≤ q) (h1 : q < 16) : 0 ≤ digV q ∧ digV q < 256 := by unfold digV; split <;> omega
theorem new_two (w : World) (x y : Value) (t : TypeId) : ∀ j u, [x, y][j]? = some u → (w.alloc (.cells #[x, y] t)).cell? ((⟨w.heap.size, 0, none⟩ : Addr).add j) = some u := by
  intro j u hj
  match j, hj with
  | 0, hj => simp at hj; subst hj; simp [Addr.add]
  | 1, hj => simp at hj; subst hj; simp [Addr.add]
  | j + 2, hj => simp at hj
theorem two_u8 (x y : Int) : ∀ u ∈ [Value.int .u8 x, Value.int .u8 y], u.oneCell' = true := by
  intro u hu; simp at hu; rcases hu with rfl | rfl <;> rfl
def encT (s : ByteArray) : ByteArray := if s.size ≤ 20000 then strOfNums (encTo s s.size) else ByteArray.empty
def encQ (s : ByteArray) : Bool := decide (s.size ≤ 20000)
def RetTxt (w : World) (b : ByteArray) (q : Bool) (e : Ending) (w' : World) : Prop := e = .returned (.tuple #[.string b, .bool q]) ∧ Gr w w' none
theorem info_u8 : (Tryd.prog.info? 5).map (fun i => (i.zero, i.size, i.bytes)) = some (some (.int .u8 0), 1, 1) := by kernel_rfl
/-- 'string(out)' of a row of one's own. -/
theorem str_own {w : World} {B n : Nat} {v : Value} {xs : List Int} (h : w.ownsRow B 5 1 v n (xs.map (Value.int .u8))) (hl : xs.length = n) : (convert 22 9 v).run Tryd.prog w = .ok (.string (strOfNums xs)) w := by
  rcases h.2 with ⟨rfl, h0⟩ | ⟨g, cap, cur, rfl, h1, h2, h3, h4, h5, h6⟩
  · obtain rfl : xs = [] := by first | exact List.map_eq_nil_iff.1 h0 | (subst h0; simpa using hl)
    exact run_convert_bytes_nil w 22 5 Tryd.underlying22 Tryd.underlying5 0 0 9 Tryd.underlying9
  · refine run_convert_bytes_arg w 22 5 Tryd.underlying22 Tryd.underlying5 g 0 n cap xs hl (fun i hi => ?_) 9 Tryd.underlying9
    have := h.cellAt i (by omega)
    rw [Nat.zero_add, this]
    simp [List.getD, List.getElem?_map, List.getElem?_eq_getElem (show i < xs.length by omega)]
theorem encodeHex_any (s : ByteArray) (w : World) :
    Calls Tryd.prog 10 #[.string s] w (RetTxt w (encT s) (encQ s)) := by
  unfold encT encQ
  by_cases hs : s.size ≤ 20000
  · rw [if_pos hs, decide_eq_true hs]
    obtain ⟨i0, hi, hz0, hz1, hz2⟩ := info_parts info_u8
    go_enter Tryd.func10, Tryd.ntmps10
    go_wp2_with fail
    go_loopw [4, 5] (fun u i wr => ∃ k : Nat, k ≤ s.size ∧ i = .int .i64 k ∧ wr.ownsRow w.heap.size 5 1 u (2 * k) ((encTo s k).map (Value.int .u8)) ∧ Gr w wr none) (fun _ i _ => s.size - (intOf i).toNat)
    case atStart => exact ⟨0, by omega, rfl, World.ownsRow_nil _ _ _ _, gr_refl _ _⟩
    case round =>
      obtain ⟨k, hk, rfl, hown, hg⟩ := hrel
      by_cases hlt : k < s.size
      · have hlt' : (k : Int) < s.size := by omega
        have hb := bt_bd s k
        have hbt : ((s[k].toNat : Nat) : Int) = bt s k := by unfold bt; rw [Array.getElem?_eq_getElem (by simpa using hlt)]; rfl
        obtain ⟨q1, hq1⟩ : ∃ q : Int, q = bt s k / 16 := ⟨_, rfl⟩
        obtain ⟨q2, hq2⟩ : ∃ q : Int, q = bt s k % 16 := ⟨_, rfl⟩
        have hw1 : IntKind.u8.wrap ((bt s k).tdiv 16) = q1 := by rw [hq1, Int.tdiv_eq_ediv_of_nonneg hb.1]; simp [IntKind.wrap, IntKind.bits, IntKind.signed]; omega
        have hw2 : (bt s k).tmod 16 = q2 := by rw [hq2, Int.tmod_eq_emod_of_nonneg hb.1]
        have hl10 : 0 ≤ q1 := by omega
        have hl20 : 0 ≤ q2 := by omega
        have hl1 : q1 < 16 := by omega
        have hl2 : q2 < 16 := by omega
        have hd1 : ((({ data := #[48, 49, 50, 51, 52, 53, 54, 55, 56, 57, 97, 98, 99, 100, 101, 102] } : ByteArray)[q1.toNat]'(fig_lt hl10 hl1)).toNat : Int) = digV q1 := fig_tab hl10 hl1 _
        have hd2 : ((({ data := #[48, 49, 50, 51, 52, 53, 54, 55, 56, 57, 97, 98, 99, 100, 101, 102] } : ByteArray)[q2.toNat]'(fig_lt hl20 hl2)).toNat : Int) = digV q2 := fig_tab hl20 hl2 _
        have HOW : Hid (∀ (W2 : World) (o : Obj), Gr wr W2 u4.ownBlock → Gr wr (W2.alloc o) u4.ownBlock ∧ w.heap.size ≤ (W2.alloc o).heap.size) := fun W2 o hh => ⟨gr_alloc hh o, by have := gr_le hh; have := gr_le hg; simp; omega⟩
        have HQ := hid (And.intro hq1 hq2)
        clear hq1 hq2 hb
        go_wp2_with fail
        go_region_held3 (fun w' => Gr wr w' u4.ownBlock)
          (first | exact gr_drew (gr_refl _ _) | exact gr_alloc (by assumption) _ | (refine gr_same ?_ (by assumption); assumption))
          (first
            | (refine step_append_lies _ (by rfl) _ _ _ (by rfl) w.heap.size 5 i0 (.int .u8 0) 1 1 Tryd.underlying22 hi hz0 hz1 hz2 (by rfl) (by decide) u4 (2 * k) _ (by rfl) (hown.drew.alloc _) _ 2 2 [.int .u8 (digV q1), .int .u8 (digV q2)] (by rfl) (by rfl) (new_two _ _ _ _) (two_u8 _ _) (by omega) (by unfold maxLen; omega) (by omega) (by have := gr_le hg; simp; omega) _ rfl ?_; intro g cap w' hownN hgrow _ _))
        all_goals (
          have hg3 : Gr w w' none := gr_trans hg (show Gr wr w' u4.ownBlock by assumption) (fun j e => .inr (hown.lt j e).1)
          have HO := hid hownN
          clear hownN hgrow
          go_wp2
          go_roundw
          case rel => exact ⟨k + 1, by omega, by go_num, by rw [encTo, List.map_append, ← HQ.out.1, ← HQ.out.2, show 2 * (k + 1) = 2 * k + 2 by omega]; exact HO.out, hg3⟩
          case measure => simp [intOf]; omega)
      · have hkl : k = s.size := by omega
        subst hkl
        have hcv := str_own hown (encTo_length _ _)
        go_wp2
        go_ret2
        exact ⟨rfl, hg⟩
  · rw [if_neg hs, decide_eq_false hs]
    have hs' : (20000 : Int) < s.size := by omega
    go_enter Tryd.func10, Tryd.ntmps10
    go_wp2
    go_ret2
    exact ⟨rfl, gr_refl _ _⟩
theorem l01Figure_any (q : Int) (w : World) (h0 : 0 ≤ q) (h1 : q < 16) :
    Calls Tryd.prog 27 #[.int .i64 q] w fun e w' => e = .returned (.int .u8 (digV q)) ∧ w = w' := by
  by_cases h : q < 10
  · rw [show digV q = 48 + q from if_pos h]
    go_enter Tryd.func27, Tryd.ntmps27
    go_wp2
    go_ret
    exact ⟨by simp <;> omega, rfl⟩
  · rw [show digV q = 87 + q from if_neg h]
    go_enter Tryd.func27, Tryd.ntmps27
    go_wp2
    go_ret
    exact ⟨by simp <;> omega, rfl⟩
end Go.Proofs.YtjnphdjblmognaaDoor
