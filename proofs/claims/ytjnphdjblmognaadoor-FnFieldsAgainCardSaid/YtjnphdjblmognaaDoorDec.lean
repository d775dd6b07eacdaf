/- DecodeHex, walked. -/
import Derived.Test.YtjnphdjblmognaaDoorHex
namespace Go.Proofs.YtjnphdjblmognaaDoor
open Go.RowKit

/-- The value of a figure; -1 of another byte. -/
def hexN (x : Int) : Int := if 48 ≤ x ∧ x ≤ 57 then x - 48 else if 97 ≤ x ∧ x ≤ 102 then x - 87 else -1
theorem hexN_bd (x : Int) : -1 ≤ hexN x ∧ hexN x ≤ 15 := by
  unfold hexN; split
  · omega
  · split <;> omega
theorem hexN_dig {x : Int} (h1 : 48 ≤ x) (h2 : x ≤ 57) : hexN x = x - 48 := if_pos ⟨h1, h2⟩
theorem hexN_let {x : Int} (h1 : 97 ≤ x) (h2 : x ≤ 102) : hexN x = x - 87 := by unfold hexN; rw [if_neg (by omega), if_pos ⟨h1, h2⟩]
theorem hexN_no {x : Int} (h1 : ¬ (48 ≤ x ∧ x ≤ 57)) (h2 : ¬ (97 ≤ x ∧ x ≤ 102)) : hexN x = -1 := by unfold hexN; rw [if_neg h1, if_neg h2]
def hx (s : ByteArray) (i : Nat) : Int := hexN (bt s i)
def decOkTo (s : ByteArray) : Nat → Bool
  | 0 => true
  | n + 1 => decOkTo s n && decide (0 ≤ hx s n)
theorem decOkTo_bad {s : ByteArray} {i : Nat} (h : ¬ 0 ≤ hx s i) : ∀ n, i < n → decOkTo s n = false := by
  intro n
  induction n with
  | zero => intro h'; omega
  | succ n ih =>
    intro h'
    by_cases e : i = n
    · subst e; simp [decOkTo, h]
    · simp [decOkTo, ih (by omega)]
theorem decOkTo_succ {s : ByteArray} {n : Nat} (h : decOkTo s n = true) (h' : 0 ≤ hx s n) : decOkTo s (n + 1) = true := by simp [decOkTo, h, h']
def decTo (s : ByteArray) : Nat → List Int
  | 0 => []
  | k + 1 => decTo s k ++ [16 * hx s (2 * k) + hx s (2 * k + 1)]
theorem decTo_length (s : ByteArray) (k : Nat) : (decTo s k).length = k := by
  induction k with
  | zero => rfl
  | succ k ih => simp [decTo, ih]
def decQ (s : ByteArray) : Bool := decide (s.size % 2 = 0) && decide (s.size ≤ 40000) && decOkTo s s.size
def decT (s : ByteArray) : ByteArray := if decQ s then strOfNums (decTo s (s.size / 2)) else ByteArray.empty
theorem one_u8 (x : Int) : ∀ u ∈ [Value.int .u8 x], u.oneCell' = true := by
  intro u hu; simp at hu; subst hu; rfl
theorem bt_eq {s : ByteArray} {i : Nat} (h : i < s.size) : ((s[i].toNat : Nat) : Int) = bt s i := by unfold bt; rw [Array.getElem?_eq_getElem (by simpa using h)]; rfl
end Go.Proofs.YtjnphdjblmognaaDoor
