/-
  The window: what its bits say (plain).
-/
import Derived.Test.YtechabbdobbooaaWin3
set_option linter.unusedSimpArgs false
set_option linter.unusedVariables false
namespace Go.Proofs.Ytechabbdobbooaa
open Go Go.Wk Go.RowKit
attribute [local irreducible] go Hold
structure WRel (t : Int) (v : Nat) (xs : List Int) : Prop where
  t0 : 0 ≤ t
  t1 : t ≤ 65535
  v1 : v < 18446744073709551616
  bit : ∀ n, 1 ≤ n → n ≤ t → t - n < 64 → (v.testBit (t - n).toNat = true ↔ n ∈ xs)
  top : ∀ n ∈ xs, 1 ≤ n ∧ n ≤ t
theorem WRel.nil : WRel 0 0 [] := ⟨by omega, by omega, by omega, by intro n h1 h2; omega, by simp⟩
theorem mayC_in {t n : Int} {v : Nat} (h1 : 1 ≤ n) (h2 : n ≤ 65535) : mayC t v n = if 64 ≤ t - n then 180 else if n ≤ t then (if v.testBit (t - n).toNat then 9 else 0) else 0 := by
  unfold mayC; rw [if_neg (by omega), if_neg (by omega)]
theorem mayC_zero {t n : Int} {v : Nat} (h : mayC t v n = 0) : 1 ≤ n ∧ n ≤ 65535 ∧ t - n < 64 := by
  unfold mayC at h
  split at h
  · simp at h
  · split at h
    · simp at h
    · split at h
      · simp at h
      · omega
theorem WRel.may {t : Int} {v : Nat} {xs : List Int} (h : WRel t v xs) {n : Int} (h1 : 1 ≤ n) (h2 : n ≤ 65535) : mayC t v n = 0 ↔ (t < n ∨ t - n < 64) ∧ n ∉ xs := by
  rw [mayC_in h1 h2]
  by_cases a : 64 ≤ t - n
  · rw [if_pos a]; simp; omega
  · rw [if_neg a]
    by_cases b : n ≤ t
    · rw [if_pos b]
      have := h.bit n h1 b (by omega)
      by_cases c : v.testBit (t - n).toNat = true
      · rw [if_pos c]; simp [this.1 c]
      · rw [if_neg c]; simp only [true_iff]; exact ⟨.inr (by omega), fun hm => c (this.2 hm)⟩
    · rw [if_neg b]; simp only [true_iff]; exact ⟨.inl (by omega), fun hm => by have := (h.top n hm).2; omega⟩
theorem takeV_lt {t n : Int} {v : Nat} (hv : v < 18446744073709551616) (h : t - n < 64) : takeV t v n < 18446744073709551616 := by
  unfold takeV
  have e : (18446744073709551616 : Nat) = 2 ^ 64 := by decide
  rw [e] at *
  split
  · exact Nat.or_lt_two_pow (Nat.mod_lt _ (by decide)) (by decide)
  · exact Nat.or_lt_two_pow hv (by rw [Nat.one_shiftLeft]; exact Nat.pow_lt_pow_right (by omega) (by omega))
theorem takeV_bit {t n : Int} {v : Nat} (k : Nat) (hk : k < 64) : (takeV t v n).testBit k = if t < n then (decide ((n - t).toNat ≤ k) && v.testBit (k - (n - t).toNat)) || decide (k = 0) else v.testBit k || decide (k = (t - n).toNat) := by
  unfold takeV
  have e : (18446744073709551616 : Nat) = 2 ^ 64 := by decide
  split
  · rw [e, Nat.testBit_or, Nat.testBit_mod_two_pow, Nat.testBit_shiftLeft]
    have : Nat.testBit 1 k = decide (k = 0) := by cases k with
      | zero => rfl
      | succ k => simp [Nat.testBit_succ]
    rw [this]; simp [hk]
  · rw [Nat.testBit_or, Nat.one_shiftLeft, Nat.testBit_two_pow]
    congr 1
    simp [eq_comm]
theorem WRel.take {t : Int} {v : Nat} {xs : List Int} (h : WRel t v xs) {n : Int} (hm : mayC t v n = 0) : WRel (max t n) (takeV t v n) (xs ++ [n]) := by
  obtain ⟨h1, h2, h3⟩ := mayC_zero hm
  have t0 := h.t0; have t1 := h.t1
  refine ⟨by omega, by omega, takeV_lt h.v1 h3, ?_, ?_⟩
  · intro m m1 m2 m3
    rw [takeV_bit _ (by omega)]
    by_cases ht : t < n
    · rw [if_pos ht]
      have e : max t n = n := by omega
      rw [e] at m2 m3 ⊢
      simp only [Bool.or_eq_true, Bool.and_eq_true, decide_eq_true_eq, List.mem_append, List.mem_singleton]
      constructor
      · rintro (⟨a, b⟩ | a)
        · left; refine (h.bit m m1 (by omega) (by omega)).1 ?_
          rw [show (t - m).toNat = (n - m).toNat - (n - t).toNat from by omega]; exact b
        · right; omega
      · rintro (a | a)
        · left
          have hb := h.top m a
          refine ⟨by omega, ?_⟩
          rw [show (n - m).toNat - (n - t).toNat = (t - m).toNat from by omega]
          exact (h.bit m m1 hb.2 (by omega)).2 a
        · right; omega
    · rw [if_neg ht]
      have e : max t n = t := by omega
      rw [e] at m2 m3 ⊢
      simp only [Bool.or_eq_true, decide_eq_true_eq, List.mem_append, List.mem_singleton]
      rw [h.bit m m1 m2 m3]
      constructor
      · rintro (a | a)
        · exact .inl a
        · right; omega
      · rintro (a | a)
        · exact .inl a
        · right; omega
  · intro m hm
    rcases List.mem_append.1 hm with a | a
    · have := h.top m a; omega
    · simp only [List.mem_singleton] at a; omega
end Go.Proofs.Ytechabbdobbooaa
