/- Least room, greatest need, least start: the program's walks. -/
import Derived.Test.YtmnfainepmnpeaaYLeast
import Derived.Test.YtmnfainepmnpeaaYWith3
namespace Go.Proofs.Ytmnfainepmnpeaa
open Go.RowKit

def roomP (r s n : Int) (xs : List Int) (m : Int) : Bool := enoughB (withR r s n xs m) (withS r s n xs m) n xs
def needP (r s : Int) (xs : List Int) (m : Int) : Bool := !enoughB r s m xs
def startP (r n : Int) (xs : List Int) (m : Int) : Bool := enoughB r m n xs
def upTo (x hi : Int) : Int := if hi < x then -1 else x
def roomV' (r s n : Int) (xs : List Int) : Int := if yearB r s xs n then upTo (leastV (roomP r s n xs) 1 100000) 100000 else -1
def needV (r s n : Int) (xs : List Int) : Int := if yearB r s xs n then leastV (needP r s xs) 0 1000000 - 1 else -1
def startV (r s n : Int) (xs : List Int) : Int := if yearB r s xs n then upTo (leastV (startP r n xs) 0 r) r else -1
theorem roomP_eq {r s n : Int} {xs : List Int} (h : yearB r s xs n = true) {m : Int} (h1 : 1 ≤ m) (h2 : m ≤ 1000000) : roomP r s n xs m = enoughB m (min s m) n xs ∧ yearB m (min s m) xs n = true := by
  have e : withOk r s n xs m = true := by rw [withOk, h, inB_mk ⟨h1, h2⟩]; rfl
  obtain ⟨a1, a2, a3, a4, a5⟩ := yearB_parts h
  exact ⟨by rw [roomP, withR, withS, e]; rfl, yearB_mk ⟨h1, h2⟩ (by omega) a3 a4 a5⟩
theorem roomP_mono {r s n : Int} {xs : List Int} (h : yearB r s xs n = true) : ∀ a b, 1 ≤ a → a ≤ b → b ≤ 100000 → roomP r s n xs a = true → roomP r s n xs b = true := fun a b h1 h2 h3 hp => by
  obtain ⟨e1, y1⟩ := roomP_eq h (m := a) h1 (by omega)
  obtain ⟨e2, y2⟩ := roomP_eq h (m := b) (by omega) (by omega)
  rw [e1] at hp
  rw [e2]
  exact enough_mono y1 y2 h2 (by omega) hp
theorem need_year {r s n : Int} {xs : List Int} (h : yearB r s xs n = true) {m : Int} (h1 : 0 ≤ m) (h2 : m ≤ 1000000) : yearB r s xs m = true := by
  obtain ⟨a1, a2, a3, a4, a5⟩ := yearB_parts h
  exact yearB_mk a1 a2 a3 a4 ⟨h1, h2⟩
theorem needP_mono {r s n : Int} {xs : List Int} (h : yearB r s xs n = true) : ∀ a b, 0 ≤ a → a ≤ b → b ≤ 1000000 → needP r s xs a = true → needP r s xs b = true := fun a b h1 h2 h3 hp => by
  simp only [needP, Bool.not_eq_true'] at hp ⊢
  cases hb : enoughB r s b xs
  · rfl
  · rw [enough_anti (need_year h h1 (by omega)) (need_year h (by omega) h3) h2 hb] at hp; cases hp
theorem start_year {r s n : Int} {xs : List Int} (h : yearB r s xs n = true) {m : Int} (h1 : 0 ≤ m) (h2 : m ≤ r) : yearB r m xs n = true := by
  obtain ⟨a1, a2, a3, a4, a5⟩ := yearB_parts h
  exact yearB_mk a1 ⟨h1, h2⟩ a3 a4 a5
theorem startP_mono {r s n : Int} {xs : List Int} (h : yearB r s xs n = true) : ∀ a b, 0 ≤ a → a ≤ b → b ≤ r → startP r n xs a = true → startP r n xs b = true := fun a b h1 h2 h3 hp =>
  enough_mono (start_year h h1 (by omega)) (start_year h (by omega) h3) (Int.le_refl _) h2 hp
theorem leastRoom1_any {By : Nat} {v : Value} {xs : List Int} (r s n m : Int) (a : World) (hy : Blk a By #[.int .i64 r, .int .i64 s, v, .int .i64 n] 27) (hv : Ints a v xs) (hl : xs.length ≤ 1048576) :
    Calls Try.prog 72 #[.int .i64 m, .pointer (some ⟨By, 0, none⟩)] a fun e b => e = .returned (.bool (roomP r s n xs m)) ∧ Gr a b none := by
  obtain ⟨m0, m1, m2, m3, n0, n1, n2, n3⟩ := cells4 hy
  have HV := hid hv
  obtain ⟨_, va, cap, rfl, _, _, hat⟩ := hv
  unfold roomP
  generalize hR : withR r s n xs m = R
  generalize hS : withS r s n xs m = S
  have HR := hid hR
  have HS := hid hS
  clear hat hy hR hS
  go_enter Try.func72, Try.ntmps72
  go_wp2_with fail
  refine (withRoom_any _ _ _ _ _ HV.out hl).mono ?_
  rw [HR.out, HS.out]
  rintro e w1 ⟨u, rfl, ou, g1⟩
  have HU := hid ou.ints
  have HG := hid g1
  clear ou g1
  go_wp2_with fail
  refine (isEnough_any _ _ _ _ HU.out).mono ?_
  rintro e w2 ⟨rfl, g2⟩
  go_wp2
  go_ret
  exact ⟨rfl, gr_then HG.out g2⟩
theorem mostNeed1_any {By : Nat} {v : Value} {xs : List Int} (r s n m : Int) (a : World) (hy : Blk a By #[.int .i64 r, .int .i64 s, v, .int .i64 n] 27) (hv : Ints a v xs) :
    Calls Try.prog 71 #[.int .i64 m, .pointer (some ⟨By, 0, none⟩)] a fun e b => e = .returned (.bool (needP r s xs m)) ∧ Gr a b none := by
  obtain ⟨m0, m1, m2, m3, n0, n1, n2, n3⟩ := cells4 hy
  have HV := hid hv
  obtain ⟨_, va, cap, rfl, _, _, hat⟩ := hv
  unfold needP
  clear hat hy
  cases hp : enoughB r s m xs
  all_goals
    have HP := hid hp
    clear hp
    go_enter Try.func71, Try.ntmps71
    go_wp2_with fail
    refine (isEnough_any _ _ _ _ (HV.out.on (gr_alloc (gr_refl _ _) _))).mono ?_
    rw [HP.out]
    rintro e w2 ⟨rfl, g2⟩
    go_wp2
    go_ret
    exact ⟨rfl, gr_then (gr_alloc (gr_refl _ _) _) g2⟩
theorem leastStart1_any {By : Nat} {v : Value} {xs : List Int} (r s n m : Int) (a : World) (hy : Blk a By #[.int .i64 r, .int .i64 s, v, .int .i64 n] 27) (hv : Ints a v xs) :
    Calls Try.prog 73 #[.int .i64 m, .pointer (some ⟨By, 0, none⟩)] a fun e b => e = .returned (.bool (startP r n xs m)) ∧ Gr a b none := by
  obtain ⟨m0, m1, m2, m3, n0, n1, n2, n3⟩ := cells4 hy
  have HV := hid hv
  obtain ⟨_, va, cap, rfl, _, _, hat⟩ := hv
  unfold startP
  clear hat hy
  go_enter Try.func73, Try.ntmps73
  go_wp2_with fail
  refine (isEnough_any _ _ _ _ (HV.out.on (gr_alloc (gr_refl _ _) _))).mono ?_
  rintro e w2 ⟨rfl, g2⟩
  go_wp2
  go_ret
  exact ⟨rfl, gr_then (gr_alloc (gr_refl _ _) _) g2⟩
theorem leastRoom_any {v : Value} {xs : List Int} (r s n : Int) (w : World) (hv : Ints w v xs) (hl : xs.length ≤ 1048576) :
    Calls Try.prog 42 #[.agg #[.int .i64 r, .int .i64 s, v, .int .i64 n]] w fun e w' => e = .returned (.int .i64 (roomV' r s n xs)) ∧ Gr w w' none := by
  have HV := hid hv
  obtain ⟨_, a, cap, rfl, _, _, hat⟩ := hv
  clear hat
  cases hy : yearB r s xs n
  · rw [show roomV' r s n xs = -1 from by simp [roomV', hy]]
    have HY := hid hy
    clear hy
    exact by go_enter Try.func42, Try.ntmps42; go_wp2_with fail; refine (yearOk_any _ _ _ _ (HV.out.on (gr_alloc (gr_refl _ _) _))).mono ?_; rw [HY.out]; rintro e w1 ⟨rfl, g1⟩; go_wp2; go_ret; exact ⟨rfl, gr_then (gr_alloc (gr_refl _ _) _) g1⟩
  · have hL := leastV_spec (roomP r s n xs) (lo := 1) (hi := 100000) (by omega)
    have b1 := hL.1
    have b2 := hL.2.1
    have HM := hid (roomP_mono hy)
    rw [show roomV' r s n xs = upTo (leastV (roomP r s n xs) 1 100000) 100000 from by simp [roomV', hy]]
    generalize hx : leastV (roomP r s n xs) 1 100000 = x at *
    have HX := hid hx
    have HY := hid hy
    have hmf : ∀ (fn : Fn) (first cap : Array Value) (w : World), (Instr.makeFunc fn first cap).run Try.prog w = .ok (.func fn first cap) w := fun _ _ _ _ => rfl
    clear hy hx hL
    by_cases hgt : 100000 < x
    all_goals
      first | rw [show upTo x 100000 = -1 from if_pos hgt] | rw [show upTo x 100000 = x from if_neg hgt]
      go_enter Try.func42, Try.ntmps42
      go_wp2_with fail
      refine (yearOk_any _ _ _ _ (HV.out.on (gr_alloc (gr_refl _ _) _))).mono ?_
      rw [HY.out]
      rintro e w1 ⟨rfl, g1⟩
      have G1 := hid (gr_then (gr_alloc (gr_refl w none) _) g1)
      have BY := hid ((blk_new w #[.int .i64 r, .int .i64 s, .slice a xs.length cap, .int .i64 n] 27).on g1)
      clear g1
      go_wp2_with fail
      refine (least_any _ _ (roomP r s n xs) _ _ _ (by omega) (by omega) (by omega) HM.out (fun m W _ _ hg => leastRoom1_any r s n m W (BY.out.on hg) (HV.out.on (gr_then G1.out hg)) hl) (enterK Try.func72 (by kernel_rfl) rfl)).mono ?_
      rw [HX.out]
      rintro e w2 ⟨rfl, g2⟩
      have HG := hid (gr_then G1.out g2)
      clear g2
      go_wp2
      go_ret
      exact ⟨rfl, HG.out⟩
theorem mostNeed_any {v : Value} {xs : List Int} (r s n : Int) (w : World) (hv : Ints w v xs) :
    Calls Try.prog 41 #[.agg #[.int .i64 r, .int .i64 s, v, .int .i64 n]] w fun e w' => e = .returned (.int .i64 (needV r s n xs)) ∧ Gr w w' none := by
  have HV := hid hv
  obtain ⟨_, a, cap, rfl, _, _, hat⟩ := hv
  clear hat
  cases hy : yearB r s xs n
  · rw [show needV r s n xs = -1 from by simp [needV, hy]]
    have HY := hid hy
    clear hy
    exact by go_enter Try.func41, Try.ntmps41; go_wp2_with fail; refine (yearOk_any _ _ _ _ (HV.out.on (gr_alloc (gr_refl _ _) _))).mono ?_; rw [HY.out]; rintro e w1 ⟨rfl, g1⟩; go_wp2; go_ret; exact ⟨rfl, gr_then (gr_alloc (gr_refl _ _) _) g1⟩
  · have hL := leastV_spec (needP r s xs) (lo := 0) (hi := 1000000) (by omega)
    have b1 := hL.1
    have b2 := hL.2.1
    have HM := hid (needP_mono hy)
    rw [show needV r s n xs = leastV (needP r s xs) 0 1000000 - 1 from by simp [needV, hy]]
    generalize hx : leastV (needP r s xs) 0 1000000 = x at *
    have HX := hid hx
    have HY := hid hy
    have hmf : ∀ (fn : Fn) (first cap : Array Value) (w : World), (Instr.makeFunc fn first cap).run Try.prog w = .ok (.func fn first cap) w := fun _ _ _ _ => rfl
    clear hy hx hL
    go_enter Try.func41, Try.ntmps41
    go_wp2_with fail
    refine (yearOk_any _ _ _ _ (HV.out.on (gr_alloc (gr_refl _ _) _))).mono ?_
    rw [HY.out]
    rintro e w1 ⟨rfl, g1⟩
    have G1 := hid (gr_then (gr_alloc (gr_refl w none) _) g1)
    have BY := hid ((blk_new w #[.int .i64 r, .int .i64 s, .slice a xs.length cap, .int .i64 n] 27).on g1)
    clear g1
    go_wp2_with fail
    refine (least_any _ _ (needP r s xs) _ _ _ (by omega) (by omega) (by omega) HM.out (fun m W _ _ hg => mostNeed1_any r s n m W (BY.out.on hg) (HV.out.on (gr_then G1.out hg))) (enterK Try.func71 (by kernel_rfl) rfl)).mono ?_
    rw [HX.out]
    rintro e w2 ⟨rfl, g2⟩
    have HG := hid (gr_then G1.out g2)
    clear g2
    go_wp2
    go_ret
    exact ⟨rfl, HG.out⟩
theorem leastStart_any {v : Value} {xs : List Int} (r s n : Int) (w : World) (hv : Ints w v xs) :
    Calls Try.prog 43 #[.agg #[.int .i64 r, .int .i64 s, v, .int .i64 n]] w fun e w' => e = .returned (.int .i64 (startV r s n xs)) ∧ Gr w w' none := by
  have HV := hid hv
  obtain ⟨_, a, cap, rfl, _, _, hat⟩ := hv
  clear hat
  cases hy : yearB r s xs n
  · rw [show startV r s n xs = -1 from by simp [startV, hy]]
    have HY := hid hy
    clear hy
    exact by go_enter Try.func43, Try.ntmps43; go_wp2_with fail; refine (yearOk_any _ _ _ _ (HV.out.on (gr_alloc (gr_refl _ _) _))).mono ?_; rw [HY.out]; rintro e w1 ⟨rfl, g1⟩; go_wp2; go_ret; exact ⟨rfl, gr_then (gr_alloc (gr_refl _ _) _) g1⟩
  · obtain ⟨hr, -⟩ := yearB_parts hy
    have hL := leastV_spec (startP r n xs) (lo := 0) (hi := r) (by omega)
    have b1 := hL.1
    have b2 := hL.2.1
    have HM := hid (startP_mono hy)
    rw [show startV r s n xs = upTo (leastV (startP r n xs) 0 r) r from by simp [startV, hy]]
    generalize hx : leastV (startP r n xs) 0 r = x at *
    have HX := hid hx
    have HY := hid hy
    have hmf : ∀ (fn : Fn) (first cap : Array Value) (w : World), (Instr.makeFunc fn first cap).run Try.prog w = .ok (.func fn first cap) w := fun _ _ _ _ => rfl
    clear hy hx hL
    by_cases hgt : r < x
    all_goals
      first | rw [show upTo x r = -1 from if_pos hgt] | rw [show upTo x r = x from if_neg hgt]
      go_enter Try.func43, Try.ntmps43
      go_wp2_with fail
      refine (yearOk_any _ _ _ _ (HV.out.on (gr_alloc (gr_refl _ _) _))).mono ?_
      rw [HY.out]
      rintro e w1 ⟨rfl, g1⟩
      have G1 := hid (gr_then (gr_alloc (gr_refl w none) _) g1)
      have BY := hid ((blk_new w #[.int .i64 r, .int .i64 s, .slice a xs.length cap, .int .i64 n] 27).on g1)
      obtain ⟨p0, -⟩ := cells4 BY.out
      clear g1
      go_wp2_with fail
      refine (least_any _ _ (startP r n xs) _ _ _ (by omega) (by omega) (by omega) HM.out (fun m W _ _ hg => leastStart1_any r s n m W (BY.out.on hg) (HV.out.on (gr_then G1.out hg))) (enterK Try.func73 (by kernel_rfl) rfl)).mono ?_
      rw [HX.out]
      rintro e w2 ⟨rfl, g2⟩
      have HG := hid (gr_then G1.out g2)
      have p0' := World.grownBy.cell g2 p0 (by simp)
      clear g2
      go_wp2
      go_ret
      exact ⟨rfl, HG.out⟩
end Go.Proofs.Ytmnfainepmnpeaa
