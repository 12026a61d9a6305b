/-
  WireBack (walk).
-/
import Derived.Test.YtpcilobbohokcaaGreatWrdW6
set_option linter.unusedSimpArgs false
set_option linter.unusedVariables false
set_option maxRecDepth 20000
namespace Go.Proofs.YtpcilobbohokcaaGreat
open Go Go.Wk Go.RowKit
attribute [local irreducible] go Hold
open Go.Lib
/-- What a message that may be has of lengths and bounds. -/
theorem small_of {k : Nat} {m : Msg} (hk0 : m.k = k) (h : checkB k m = true) : (-9223372036854775808 ≤ m.aud ∧ m.aud ≤ 9223372036854775807) ∧ m.body.length ≤ 16384 ∧ m.tag.length ≤ 16384 ∧ m.mbs.length ≤ 6 ∧ ∀ x ∈ m.mbs, x.2.length ≤ 16384 := by
  obtain ⟨hk, hi, -, hf⟩ := check_is h
  obtain ⟨i1, i2, i3, i4⟩ := idle_is hi
  have htag : m.tag.length ≤ 16384 := by
    by_cases h2 : k = 2
    · subst h2
      have hf : k4B m = true := hf
      unfold k4B at hf
      simp only [Bool.and_eq_true] at hf
      cases hy : m.yes
      · rw [hy] at hf
        have : m.tag = [] := by simpa using hf.1
        rw [this]; simp
      · rw [hy] at hf
        have h0 : checkS m.tag = 0 := by simpa using hf.2
        exact (check0 h0).2.2.1
    · rw [i3 (by omega)]; simp
  by_cases h1 : k = 1
  · subst h1
    have hf : k1B m = true := hf
    unfold k1B at hf
    simp only [Bool.and_eq_true, decide_eq_true_eq] at hf
    have ho := of_decide_eq_true hf.1.1
    have hB := hf.1.2
    unfold mbB at hB
    rw [Bool.and_eq_true] at hB
    exact ⟨by omega, (check0 hf.2).2.2.1, htag, (of_decide_eq_true hB.2).2, fun y hy => (check0 (mbs_el hB.1 y hy).2.2).2.2.1⟩
  · obtain ⟨e1, e2, e3⟩ := i1 (by omega)
    rw [e1, e2, e3]
    exact ⟨by decide, by simp, htag, by simp, by simp⟩
end Go.Proofs.YtpcilobbohokcaaGreat
