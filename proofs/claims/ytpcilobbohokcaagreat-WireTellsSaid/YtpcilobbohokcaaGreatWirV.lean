/-
  WireBack (walk).
-/
import Derived.Test.YtpcilobbohokcaaGreatW6
set_option linter.unusedSimpArgs false
set_option linter.unusedVariables false
set_option maxRecDepth 20000
namespace Go.Proofs.YtpcilobbohokcaaGreat
open Go Go.Wk Go.RowKit
attribute [local irreducible] go Hold
open Go.Lib
theorem enc_row {k : Nat} {m : Msg} {a : List UInt8} (h : encS k m = (a, 0)) : kindS a = 3 := by
  unfold encS at h
  split at h
  · rename_i hc
    split at h
    · simp at h
    · have := encL_len hc
      have hl : (encL k m).length ≤ 5 := by
        unfold encL
        have := rowsL_len k m
        simp only [List.length_cons, List.length_append]
        split <;> simp only [List.length_nil, List.length_cons] <;> omega
      exact (row_of (by omega) h).1
  · simp at h
/-- What a message that may be has of lengths and bounds. -/
theorem small_of {k : Nat} {m : Msg} (hk0 : m.k = k) (h : checkB k m = true) : (-9223372036854775808 ≤ m.aud ∧ m.aud ≤ 9223372036854775807) ∧ m.body.length ≤ 16384 ∧ m.tag.length ≤ 16384 ∧ m.mbs.length ≤ 6 ∧ ∀ x ∈ m.mbs, x.2.length ≤ 16384 := by
  obtain ⟨hk, hi, -, hf⟩ := check_is h
  obtain ⟨i1, i2, i3, i4⟩ := idle_is hi
  have htag : m.tag.length ≤ 16384 := by
    by_cases h2 : k = 2
    · subst h2
      have hf : k4B m = true := hf
      unfold k4B at hf
      simp only [Bool.and_eq_true] at hf
      cases hy : m.yes
      · rw [hy] at hf
        have : m.tag = [] := by simpa using hf.1
        rw [this]; simp
      · rw [hy] at hf
        have h0 : checkS m.tag = 0 := by simpa using hf.2
        exact (check0 h0).2.2.1
    · rw [i3 (by omega)]; simp
  by_cases h1 : k = 1
  · subst h1
    have hf : k1B m = true := hf
    unfold k1B at hf
    simp only [Bool.and_eq_true, decide_eq_true_eq] at hf
    have ho := of_decide_eq_true hf.1.1
    have hB := hf.1.2
    unfold mbB at hB
    rw [Bool.and_eq_true] at hB
    exact ⟨by omega, (check0 hf.2).2.2.1, htag, (of_decide_eq_true hB.2).2, fun y hy => (check0 (mbs_el hB.1 y hy).2.2).2.2.1⟩
  · obtain ⟨e1, e2, e3⟩ := i1 (by omega)
    rw [e1, e2, e3]
    exact ⟨by decide, by simp, htag, by simp, by simp⟩
theorem long_is {m : Msg} (h : longM m = false) : m.mbs.length ≤ 20 ∧ (∀ x ∈ m.mbs, x.2.length ≤ 20000) ∧ m.body.length ≤ 20000 ∧ m.tag.length ≤ 20000 := by
  unfold longM longB at h
  simp only [Bool.or_eq_false_iff] at h
  obtain ⟨⟨⟨h1, h2⟩, h3⟩, h4⟩ := h
  have h1 := of_decide_eq_false h1
  have h3 := of_decide_eq_false h3
  have h4 := of_decide_eq_false h4
  refine ⟨by omega, fun x hx => ?_, by omega, by omega⟩
  have := (List.any_eq_false.1 h2) x hx
  have := of_decide_eq_false (Bool.eq_false_iff.2 this)
  omega
end Go.Proofs.YtpcilobbohokcaaGreat
