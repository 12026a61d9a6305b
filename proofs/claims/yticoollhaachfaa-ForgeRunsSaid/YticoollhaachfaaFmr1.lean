/-
  More terms that are seen, more steps: the steps' results stay (plain).
-/
import Derived.Test.YticoollhaachfaaFrg6
set_option linter.unusedSimpArgs false
set_option linter.unusedVariables false
namespace Go.Proofs.Yticoollhaachfaa
open Go Go.Wk Go.RowKit
attribute [local irreducible] go Hold
open Go.Lib
theorem atL_more {l t : List (List UInt8)} {i : Int} (h0 : 0 ≤ i) (h1 : i < l.length) : atL (l ++ t) i = atL l i := by
  unfold atL
  rw [List.getD_eq_getElem?_getD, List.getD_eq_getElem?_getD, List.getElem?_append_left (by omega)]
theorem lookD_more {seen more : List (List UInt8)} {x : Stp} (h : (lookD seen x).2 = 0) : lookD (seen ++ more) x = lookD seen x := by
  unfold lookD at h ⊢
  by_cases h1 : 0 ≤ x.n ∧ x.n < seen.length
  · rw [if_pos h1, if_pos (show 0 ≤ x.n ∧ x.n < (seen ++ more).length by simp; omega), atL_more h1.1 h1.2]
  · rw [if_neg h1] at h; simp at h
theorem doS_more {seen more l : List (List UInt8)} {x : Stp} (h : (doS seen l x).2 = 0) : doS (seen ++ more) l x = doS seen l x := by
  unfold doS at h ⊢
  split at h <;> first | exact lookD_more h | rfl
theorem runS_more {seen more : List (List UInt8)} : ∀ (xs : List Stp) (l : List (List UInt8)), (runS seen xs l).2.2 = 0 → runS (seen ++ more) xs l = runS seen xs l
  | [], l, _ => rfl
  | x :: xs, l, h => by
    simp only [runS] at h ⊢
    by_cases h1 : mayS x l.length = true
    · rw [if_pos h1] at h
      rw [if_pos h1, if_pos h1]
      by_cases h2 : (doS seen l x).2 = 0
      · rw [if_pos h2] at h
        rw [doS_more h2, if_pos h2, if_pos h2]
        exact runS_more xs _ h
      · rw [if_neg h2] at h; exact absurd h h2
    · rw [if_neg h1] at h; simp at h
theorem allT_more {seen more : List (List UInt8)} {xs : List Stp} (h : (allT seen xs).2.2 = 0) : allT (seen ++ more) xs = allT seen xs := by
  unfold allT at h ⊢
  by_cases h0 : xs.length = 0
  · rw [if_pos h0] at h; simp at h
  · rw [if_neg h0] at h
    rw [if_neg h0, if_neg h0]
    exact runS_more xs [] h
theorem runS_app {seen : List (List UInt8)} (ys : List Stp) : ∀ (xs : List Stp) (l : List (List UInt8)), (runS seen xs l).2.2 = 0 → runS seen (xs ++ ys) l = runS seen ys (runS seen xs l).1
  | [], l, _ => rfl
  | x :: xs, l, h => by
    simp only [runS, List.cons_append] at h ⊢
    by_cases h1 : mayS x l.length = true
    · rw [if_pos h1] at h
      rw [if_pos h1, if_pos h1]
      by_cases h2 : (doS seen l x).2 = 0
      · rw [if_pos h2] at h
        rw [if_pos h2, if_pos h2]
        exact runS_app ys xs _ h
      · rw [if_neg h2] at h; exact absurd h h2
    · rw [if_neg h1] at h; simp at h
theorem runS_pre {seen : List (List UInt8)} : ∀ (xs : List Stp) (l : List (List UInt8)), (runS seen xs l).2.2 = 0 → ∃ t, (runS seen xs l).1 = l ++ t
  | [], l, _ => ⟨[], by simp [runS]⟩
  | x :: xs, l, h => by
    simp only [runS] at h ⊢
    by_cases h1 : mayS x l.length = true
    · rw [if_pos h1] at h ⊢
      by_cases h2 : (doS seen l x).2 = 0
      · rw [if_pos h2] at h ⊢
        obtain ⟨t, ht⟩ := runS_pre xs _ h
        exact ⟨(doS seen l x).1 :: t, by rw [ht]; simp⟩
      · rw [if_neg h2] at h; exact absurd h h2
    · rw [if_neg h1] at h; simp at h
/-- Steps behind others begin with what those came to. -/
theorem allT_app {seen : List (List UInt8)} {xs ys : List Stp} (h : (allT seen xs).2.2 = 0) (h2 : (allT seen (xs ++ ys)).2.2 = 0) : (∃ t, (allT seen (xs ++ ys)).1 = (allT seen xs).1 ++ t) ∧ (allT seen (xs ++ ys)).1.length = xs.length + ys.length := by
  have hok := allT_ok h2
  refine ⟨?_, by rw [hok.1, List.length_append]⟩
  unfold allT at h h2 ⊢
  by_cases h0 : xs.length = 0
  · rw [if_pos h0] at h; simp at h
  · rw [if_neg h0] at h
    rw [if_neg (show ¬(xs ++ ys).length = 0 by rw [List.length_append]; omega)] at h2
    rw [if_neg h0, if_neg (show ¬(xs ++ ys).length = 0 by rw [List.length_append]; omega)]
    rw [runS_app ys xs [] h] at h2 ⊢
    exact runS_pre ys _ h2
/-- The head of a row that is read. -/
theorem Rd.pre {w : World} {a : Option Addr} {n c : Nat} {xs ys : List Value} (h : Rd w 1 (.slice a n c) n (xs ++ ys)) : Rd w 1 (.slice a xs.length c) xs.length xs := by
  obtain ⟨hl, a', c', e, hc, h2⟩ := h
  rw [Value.slice.injEq] at e
  obtain ⟨rfl, -, rfl⟩ := e
  rw [List.length_append] at hl
  refine ⟨by simp, a, c, rfl, by omega, fun j u hj => h2 j u ?_⟩
  rw [List.getElem?_append_left (List.getElem?_eq_some_iff.1 hj).1]
  exact hj
end Go.Proofs.Yticoollhaachfaa
