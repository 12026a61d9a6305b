/-
  Numbers as bytes (plain).
-/
import Derived.Test.YticoollhaachfaaTab
import Derived.Test.YticoollhaachfaaRd
import Derived.Test.YticoollhaachfaaRec
import Derived.Test.YticoollhaachfaaMap
set_option linter.unusedSimpArgs false
set_option linter.unusedVariables false
namespace Go.Proofs.Yticoollhaachfaa
open Go Go.Wk Go.RowKit
attribute [local irreducible] go Hold
/-- The low k digits of a number to the base 256, the highest first. -/
def lowD (v : Nat) : Nat → List UInt8
  | 0 => []
  | k + 1 => UInt8.ofNat (v / 256 ^ k % 256) :: lowD v k
theorem lowD_len (v : Nat) : ∀ k, (lowD v k).length = k
  | 0 => rfl
  | k + 1 => by simp [lowD, lowD_len v k]
/-- How many digits. -/
def nd (v : Nat) : Nat := if v = 0 then 0 else nd (v / 256) + 1
termination_by v
decreasing_by omega
theorem nd_zero : nd 0 = 0 := by unfold nd; simp
theorem nd_pos {v : Nat} (h : v ≠ 0) : nd v = nd (v / 256) + 1 := by rw [nd, if_neg h]
theorem nd_le : ∀ (k v : Nat), v < 256 ^ k → nd v ≤ k
  | 0, v, h => by
    have : v = 0 := by simpa using h
    subst this; rw [nd_zero]; omega
  | k + 1, v, h => by
    by_cases h0 : v = 0
    · subst h0; rw [nd_zero]; omega
    · rw [nd_pos h0]
      have := nd_le k (v / 256) (by rw [Nat.pow_succ] at h; omega)
      omega
theorem nd_div : ∀ (k v : Nat), k ≤ nd v → nd (v / 256 ^ k) + k = nd v
  | 0, v, _ => by simp
  | k + 1, v, h => by
    have h0 : v ≠ 0 := by intro e; subst e; rw [nd_zero] at h; omega
    rw [nd_pos h0] at h ⊢
    have := nd_div k (v / 256) (by omega)
    rw [Nat.div_div_eq_div_mul] at this
    rw [Nat.pow_succ, Nat.mul_comm]
    omega
/-- The digits: of 0 none. -/
def digL (v : Nat) : List UInt8 := lowD v (nd v)
theorem lowD_last (v : Nat) : ∀ k, lowD v (k + 1) = lowD (v / 256) k ++ [UInt8.ofNat (v % 256)]
  | 0 => by simp [lowD]
  | k + 1 => by
    rw [lowD, lowD_last v k]
    have : v / 256 ^ (k + 1) = v / 256 / 256 ^ k := by rw [Nat.div_div_eq_div_mul, Nat.pow_succ, Nat.mul_comm]
    simp [lowD, this]
theorem digL_step {v : Nat} (h : v ≠ 0) : digL v = digL (v / 256) ++ [UInt8.ofNat (v % 256)] := by
  unfold digL; rw [nd_pos h, lowD_last]
theorem digL_zero : digL 0 = [] := by unfold digL; rw [nd_zero]; rfl
theorem digL_len (v : Nat) : (digL v).length = nd v := lowD_len v _
/-- What a number's bytes are. -/
def numL (v : Nat) : List UInt8 := if v < 248 then [UInt8.ofNat v] else UInt8.ofNat (247 + nd v) :: digL v
theorem nd8 {v : Nat} (h : v < 18446744073709551616) : nd v ≤ 8 := nd_le 8 v (Nat.lt_of_lt_of_le h (by decide))
theorem nd1 {v : Nat} (h : 0 < v) : 1 ≤ nd v := by rw [nd_pos (by omega)]; omega
theorem numL_len {v : Nat} (h : v < 18446744073709551616) : (numL v).length ≤ 9 := by
  have := nd8 h
  unfold numL; split
  · simp
  · simp [digL_len]; omega
end Go.Proofs.Yticoollhaachfaa
