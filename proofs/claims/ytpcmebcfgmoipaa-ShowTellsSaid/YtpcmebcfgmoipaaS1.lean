/-
  Which runes are plain, a name's, a digit's; how far a text is so (walks). How far a text is so; whether a text is plain (walks). The reader of a line: must, had, cut, next (walks). What digits say (plain, and the reader's bytes: a walk). The reader's bytes (walk). What the reader makes of a line (plain).
-/
import Derived.Test.YtpcmebcfgmoipaaB2
import Derived.Test.YtpcmebcfgmoipaaB5
import Derived.Test.YtpcmebcfgmoipaaB1
import Derived.Lib.RuneCountTail
import Derived.Lib.MapLaws
import Derived.Lib.RuneCount
import Derived.Lib.PathFns
set_option linter.unusedSimpArgs false
set_option linter.unusedVariables false
namespace Go.Proofs.Ytpcmebcfgmoipaa
open Go Go.Wk Go.RowKit
attribute [local irreducible] go Hold
open Go.Lib
def plB (r : Nat) : Bool := decide (r ≠ 34 ∧ ((32 ≤ r ∧ r ≤ 126) ∨ (161 ≤ r ∧ r ≤ 687) ∨ (880 ≤ r ∧ r ≤ 1279)))
def nmB (r : Nat) : Bool := decide ((97 ≤ r ∧ r ≤ 122) ∨ (48 ≤ r ∧ r ≤ 57) ∨ r = 47 ∨ r = 46 ∨ r = 45)
def hxB (r : Nat) : Bool := decide ((48 ≤ r ∧ r ≤ 57) ∨ (97 ≤ r ∧ r ≤ 102))
set_option maxHeartbeats 4000000 in
theorem sPlain_cps (r : Nat) (hr : r ≤ 1114111) (w : World) (R : Ending → World → Prop) (hR : R (.returned (.bool (plB r))) w) : Calls Try.prog 46 #[.int .i32 r] w R := by
  unfold plB at hR
  refine calls_go 4000 okT Try.func46 rfl (rs := [.tmp 2]) rfl Try.ntmps46 (args := [.int .i32 r]) ?_
  have hc : r < 32 ∨ (32 ≤ r ∧ r < 34) ∨ r = 34 ∨ (34 < r ∧ r ≤ 126) ∨ (126 < r ∧ r < 161) ∨ (161 ≤ r ∧ r ≤ 687) ∨ (687 < r ∧ r < 880) ∨ (880 ≤ r ∧ r ≤ 1279) ∨ 1279 < r := by omega
  rcases hc with h | h | h | h | h | h | h | h | h
  · rw [decide_eq_false (by omega)] at hR
    simp (config := { maxSteps := 1000000 }) (disch := first | omega | (simp only [sizeAlloc, sizeDrew, sizeSet, sizePut] <;> omega) | fail) only [GS1, GS2, GS3, GS4, GS5, GS6, GS7, GS8, GS9, GS10, GS11, TT_eq, TTl, Nat.reduceAdd, Nat.reduceMul, Nat.reduceSub, Nat.reduceDiv, Nat.reduceMod, Nat.reducePow, Nat.reduceEqDiff, ↓reduceIte, reduceCtorEq, true_and, and_true, and_self, false_and, and_false, Int.reduceToNat, Int.reduceAdd, Int.reduceSub, Int.reduceMul, cond_true, cond_false, List.toList_toArray, Option.map_some, Option.map_none, Option.some.injEq, List.cons_append, List.nil_append, List.length_cons, List.length_nil, List.getD_cons_zero, List.getD_cons_succ]
    exact hR
  · rw [decide_eq_true (by omega)] at hR
    simp (config := { maxSteps := 1000000 }) (disch := first | omega | (simp only [sizeAlloc, sizeDrew, sizeSet, sizePut] <;> omega) | fail) only [GS1, GS2, GS3, GS4, GS5, GS6, GS7, GS8, GS9, GS10, GS11, TT_eq, TTl, Nat.reduceAdd, Nat.reduceMul, Nat.reduceSub, Nat.reduceDiv, Nat.reduceMod, Nat.reducePow, Nat.reduceEqDiff, ↓reduceIte, reduceCtorEq, true_and, and_true, and_self, false_and, and_false, Int.reduceToNat, Int.reduceAdd, Int.reduceSub, Int.reduceMul, cond_true, cond_false, List.toList_toArray, Option.map_some, Option.map_none, Option.some.injEq, List.cons_append, List.nil_append, List.length_cons, List.length_nil, List.getD_cons_zero, List.getD_cons_succ]
    exact hR
  · rw [decide_eq_false (by omega)] at hR
    simp (config := { maxSteps := 1000000 }) (disch := first | omega | (simp only [sizeAlloc, sizeDrew, sizeSet, sizePut] <;> omega) | fail) only [GS1, GS2, GS3, GS4, GS5, GS6, GS7, GS8, GS9, GS10, GS11, TT_eq, TTl, Nat.reduceAdd, Nat.reduceMul, Nat.reduceSub, Nat.reduceDiv, Nat.reduceMod, Nat.reducePow, Nat.reduceEqDiff, ↓reduceIte, reduceCtorEq, true_and, and_true, and_self, false_and, and_false, Int.reduceToNat, Int.reduceAdd, Int.reduceSub, Int.reduceMul, cond_true, cond_false, List.toList_toArray, Option.map_some, Option.map_none, Option.some.injEq, List.cons_append, List.nil_append, List.length_cons, List.length_nil, List.getD_cons_zero, List.getD_cons_succ]
    exact hR
  · rw [decide_eq_true (by omega)] at hR
    simp (config := { maxSteps := 1000000 }) (disch := first | omega | (simp only [sizeAlloc, sizeDrew, sizeSet, sizePut] <;> omega) | fail) only [GS1, GS2, GS3, GS4, GS5, GS6, GS7, GS8, GS9, GS10, GS11, TT_eq, TTl, Nat.reduceAdd, Nat.reduceMul, Nat.reduceSub, Nat.reduceDiv, Nat.reduceMod, Nat.reducePow, Nat.reduceEqDiff, ↓reduceIte, reduceCtorEq, true_and, and_true, and_self, false_and, and_false, Int.reduceToNat, Int.reduceAdd, Int.reduceSub, Int.reduceMul, cond_true, cond_false, List.toList_toArray, Option.map_some, Option.map_none, Option.some.injEq, List.cons_append, List.nil_append, List.length_cons, List.length_nil, List.getD_cons_zero, List.getD_cons_succ]
    exact hR
  · rw [decide_eq_false (by omega)] at hR
    simp (config := { maxSteps := 1000000 }) (disch := first | omega | (simp only [sizeAlloc, sizeDrew, sizeSet, sizePut] <;> omega) | fail) only [GS1, GS2, GS3, GS4, GS5, GS6, GS7, GS8, GS9, GS10, GS11, TT_eq, TTl, Nat.reduceAdd, Nat.reduceMul, Nat.reduceSub, Nat.reduceDiv, Nat.reduceMod, Nat.reducePow, Nat.reduceEqDiff, ↓reduceIte, reduceCtorEq, true_and, and_true, and_self, false_and, and_false, Int.reduceToNat, Int.reduceAdd, Int.reduceSub, Int.reduceMul, cond_true, cond_false, List.toList_toArray, Option.map_some, Option.map_none, Option.some.injEq, List.cons_append, List.nil_append, List.length_cons, List.length_nil, List.getD_cons_zero, List.getD_cons_succ]
    exact hR
  · rw [decide_eq_true (by omega)] at hR
    simp (config := { maxSteps := 1000000 }) (disch := first | omega | (simp only [sizeAlloc, sizeDrew, sizeSet, sizePut] <;> omega) | fail) only [GS1, GS2, GS3, GS4, GS5, GS6, GS7, GS8, GS9, GS10, GS11, TT_eq, TTl, Nat.reduceAdd, Nat.reduceMul, Nat.reduceSub, Nat.reduceDiv, Nat.reduceMod, Nat.reducePow, Nat.reduceEqDiff, ↓reduceIte, reduceCtorEq, true_and, and_true, and_self, false_and, and_false, Int.reduceToNat, Int.reduceAdd, Int.reduceSub, Int.reduceMul, cond_true, cond_false, List.toList_toArray, Option.map_some, Option.map_none, Option.some.injEq, List.cons_append, List.nil_append, List.length_cons, List.length_nil, List.getD_cons_zero, List.getD_cons_succ]
    exact hR
  · rw [decide_eq_false (by omega)] at hR
    simp (config := { maxSteps := 1000000 }) (disch := first | omega | (simp only [sizeAlloc, sizeDrew, sizeSet, sizePut] <;> omega) | fail) only [GS1, GS2, GS3, GS4, GS5, GS6, GS7, GS8, GS9, GS10, GS11, TT_eq, TTl, Nat.reduceAdd, Nat.reduceMul, Nat.reduceSub, Nat.reduceDiv, Nat.reduceMod, Nat.reducePow, Nat.reduceEqDiff, ↓reduceIte, reduceCtorEq, true_and, and_true, and_self, false_and, and_false, Int.reduceToNat, Int.reduceAdd, Int.reduceSub, Int.reduceMul, cond_true, cond_false, List.toList_toArray, Option.map_some, Option.map_none, Option.some.injEq, List.cons_append, List.nil_append, List.length_cons, List.length_nil, List.getD_cons_zero, List.getD_cons_succ]
    exact hR
  · rw [decide_eq_true (by omega)] at hR
    simp (config := { maxSteps := 1000000 }) (disch := first | omega | (simp only [sizeAlloc, sizeDrew, sizeSet, sizePut] <;> omega) | fail) only [GS1, GS2, GS3, GS4, GS5, GS6, GS7, GS8, GS9, GS10, GS11, TT_eq, TTl, Nat.reduceAdd, Nat.reduceMul, Nat.reduceSub, Nat.reduceDiv, Nat.reduceMod, Nat.reducePow, Nat.reduceEqDiff, ↓reduceIte, reduceCtorEq, true_and, and_true, and_self, false_and, and_false, Int.reduceToNat, Int.reduceAdd, Int.reduceSub, Int.reduceMul, cond_true, cond_false, List.toList_toArray, Option.map_some, Option.map_none, Option.some.injEq, List.cons_append, List.nil_append, List.length_cons, List.length_nil, List.getD_cons_zero, List.getD_cons_succ]
    exact hR
  · rw [decide_eq_false (by omega)] at hR
    simp (config := { maxSteps := 1000000 }) (disch := first | omega | (simp only [sizeAlloc, sizeDrew, sizeSet, sizePut] <;> omega) | fail) only [GS1, GS2, GS3, GS4, GS5, GS6, GS7, GS8, GS9, GS10, GS11, TT_eq, TTl, Nat.reduceAdd, Nat.reduceMul, Nat.reduceSub, Nat.reduceDiv, Nat.reduceMod, Nat.reducePow, Nat.reduceEqDiff, ↓reduceIte, reduceCtorEq, true_and, and_true, and_self, false_and, and_false, Int.reduceToNat, Int.reduceAdd, Int.reduceSub, Int.reduceMul, cond_true, cond_false, List.toList_toArray, Option.map_some, Option.map_none, Option.some.injEq, List.cons_append, List.nil_append, List.length_cons, List.length_nil, List.getD_cons_zero, List.getD_cons_succ]
    exact hR
set_option maxHeartbeats 4000000 in
theorem rPlainC_cps (r : Nat) (hr : r ≤ 1114111) (w : World) (R : Ending → World → Prop) (hR : R (.returned (.bool (plB r))) w) : Calls Try.prog 47 #[.int .i32 r] w R := by
  unfold plB at hR
  refine calls_go 4000 okT Try.func47 rfl (rs := [.tmp 2]) rfl Try.ntmps47 (args := [.int .i32 r]) ?_
  have hc : r < 32 ∨ (32 ≤ r ∧ r < 34) ∨ r = 34 ∨ (34 < r ∧ r ≤ 126) ∨ (126 < r ∧ r < 161) ∨ (161 ≤ r ∧ r ≤ 687) ∨ (687 < r ∧ r < 880) ∨ (880 ≤ r ∧ r ≤ 1279) ∨ 1279 < r := by omega
  rcases hc with h | h | h | h | h | h | h | h | h
  · rw [decide_eq_false (by omega)] at hR
    simp (config := { maxSteps := 1000000 }) (disch := first | omega | (simp only [sizeAlloc, sizeDrew, sizeSet, sizePut] <;> omega) | fail) only [GS1, GS2, GS3, GS4, GS5, GS6, GS7, GS8, GS9, GS10, GS11, TT_eq, TTl, Nat.reduceAdd, Nat.reduceMul, Nat.reduceSub, Nat.reduceDiv, Nat.reduceMod, Nat.reducePow, Nat.reduceEqDiff, ↓reduceIte, reduceCtorEq, true_and, and_true, and_self, false_and, and_false, Int.reduceToNat, Int.reduceAdd, Int.reduceSub, Int.reduceMul, cond_true, cond_false, List.toList_toArray, Option.map_some, Option.map_none, Option.some.injEq, List.cons_append, List.nil_append, List.length_cons, List.length_nil, List.getD_cons_zero, List.getD_cons_succ]
    exact hR
  · rw [decide_eq_true (by omega)] at hR
    simp (config := { maxSteps := 1000000 }) (disch := first | omega | (simp only [sizeAlloc, sizeDrew, sizeSet, sizePut] <;> omega) | fail) only [GS1, GS2, GS3, GS4, GS5, GS6, GS7, GS8, GS9, GS10, GS11, TT_eq, TTl, Nat.reduceAdd, Nat.reduceMul, Nat.reduceSub, Nat.reduceDiv, Nat.reduceMod, Nat.reducePow, Nat.reduceEqDiff, ↓reduceIte, reduceCtorEq, true_and, and_true, and_self, false_and, and_false, Int.reduceToNat, Int.reduceAdd, Int.reduceSub, Int.reduceMul, cond_true, cond_false, List.toList_toArray, Option.map_some, Option.map_none, Option.some.injEq, List.cons_append, List.nil_append, List.length_cons, List.length_nil, List.getD_cons_zero, List.getD_cons_succ]
    exact hR
  · rw [decide_eq_false (by omega)] at hR
    simp (config := { maxSteps := 1000000 }) (disch := first | omega | (simp only [sizeAlloc, sizeDrew, sizeSet, sizePut] <;> omega) | fail) only [GS1, GS2, GS3, GS4, GS5, GS6, GS7, GS8, GS9, GS10, GS11, TT_eq, TTl, Nat.reduceAdd, Nat.reduceMul, Nat.reduceSub, Nat.reduceDiv, Nat.reduceMod, Nat.reducePow, Nat.reduceEqDiff, ↓reduceIte, reduceCtorEq, true_and, and_true, and_self, false_and, and_false, Int.reduceToNat, Int.reduceAdd, Int.reduceSub, Int.reduceMul, cond_true, cond_false, List.toList_toArray, Option.map_some, Option.map_none, Option.some.injEq, List.cons_append, List.nil_append, List.length_cons, List.length_nil, List.getD_cons_zero, List.getD_cons_succ]
    exact hR
  · rw [decide_eq_true (by omega)] at hR
    simp (config := { maxSteps := 1000000 }) (disch := first | omega | (simp only [sizeAlloc, sizeDrew, sizeSet, sizePut] <;> omega) | fail) only [GS1, GS2, GS3, GS4, GS5, GS6, GS7, GS8, GS9, GS10, GS11, TT_eq, TTl, Nat.reduceAdd, Nat.reduceMul, Nat.reduceSub, Nat.reduceDiv, Nat.reduceMod, Nat.reducePow, Nat.reduceEqDiff, ↓reduceIte, reduceCtorEq, true_and, and_true, and_self, false_and, and_false, Int.reduceToNat, Int.reduceAdd, Int.reduceSub, Int.reduceMul, cond_true, cond_false, List.toList_toArray, Option.map_some, Option.map_none, Option.some.injEq, List.cons_append, List.nil_append, List.length_cons, List.length_nil, List.getD_cons_zero, List.getD_cons_succ]
    exact hR
  · rw [decide_eq_false (by omega)] at hR
    simp (config := { maxSteps := 1000000 }) (disch := first | omega | (simp only [sizeAlloc, sizeDrew, sizeSet, sizePut] <;> omega) | fail) only [GS1, GS2, GS3, GS4, GS5, GS6, GS7, GS8, GS9, GS10, GS11, TT_eq, TTl, Nat.reduceAdd, Nat.reduceMul, Nat.reduceSub, Nat.reduceDiv, Nat.reduceMod, Nat.reducePow, Nat.reduceEqDiff, ↓reduceIte, reduceCtorEq, true_and, and_true, and_self, false_and, and_false, Int.reduceToNat, Int.reduceAdd, Int.reduceSub, Int.reduceMul, cond_true, cond_false, List.toList_toArray, Option.map_some, Option.map_none, Option.some.injEq, List.cons_append, List.nil_append, List.length_cons, List.length_nil, List.getD_cons_zero, List.getD_cons_succ]
    exact hR
  · rw [decide_eq_true (by omega)] at hR
    simp (config := { maxSteps := 1000000 }) (disch := first | omega | (simp only [sizeAlloc, sizeDrew, sizeSet, sizePut] <;> omega) | fail) only [GS1, GS2, GS3, GS4, GS5, GS6, GS7, GS8, GS9, GS10, GS11, TT_eq, TTl, Nat.reduceAdd, Nat.reduceMul, Nat.reduceSub, Nat.reduceDiv, Nat.reduceMod, Nat.reducePow, Nat.reduceEqDiff, ↓reduceIte, reduceCtorEq, true_and, and_true, and_self, false_and, and_false, Int.reduceToNat, Int.reduceAdd, Int.reduceSub, Int.reduceMul, cond_true, cond_false, List.toList_toArray, Option.map_some, Option.map_none, Option.some.injEq, List.cons_append, List.nil_append, List.length_cons, List.length_nil, List.getD_cons_zero, List.getD_cons_succ]
    exact hR
  · rw [decide_eq_false (by omega)] at hR
    simp (config := { maxSteps := 1000000 }) (disch := first | omega | (simp only [sizeAlloc, sizeDrew, sizeSet, sizePut] <;> omega) | fail) only [GS1, GS2, GS3, GS4, GS5, GS6, GS7, GS8, GS9, GS10, GS11, TT_eq, TTl, Nat.reduceAdd, Nat.reduceMul, Nat.reduceSub, Nat.reduceDiv, Nat.reduceMod, Nat.reducePow, Nat.reduceEqDiff, ↓reduceIte, reduceCtorEq, true_and, and_true, and_self, false_and, and_false, Int.reduceToNat, Int.reduceAdd, Int.reduceSub, Int.reduceMul, cond_true, cond_false, List.toList_toArray, Option.map_some, Option.map_none, Option.some.injEq, List.cons_append, List.nil_append, List.length_cons, List.length_nil, List.getD_cons_zero, List.getD_cons_succ]
    exact hR
  · rw [decide_eq_true (by omega)] at hR
    simp (config := { maxSteps := 1000000 }) (disch := first | omega | (simp only [sizeAlloc, sizeDrew, sizeSet, sizePut] <;> omega) | fail) only [GS1, GS2, GS3, GS4, GS5, GS6, GS7, GS8, GS9, GS10, GS11, TT_eq, TTl, Nat.reduceAdd, Nat.reduceMul, Nat.reduceSub, Nat.reduceDiv, Nat.reduceMod, Nat.reducePow, Nat.reduceEqDiff, ↓reduceIte, reduceCtorEq, true_and, and_true, and_self, false_and, and_false, Int.reduceToNat, Int.reduceAdd, Int.reduceSub, Int.reduceMul, cond_true, cond_false, List.toList_toArray, Option.map_some, Option.map_none, Option.some.injEq, List.cons_append, List.nil_append, List.length_cons, List.length_nil, List.getD_cons_zero, List.getD_cons_succ]
    exact hR
  · rw [decide_eq_false (by omega)] at hR
    simp (config := { maxSteps := 1000000 }) (disch := first | omega | (simp only [sizeAlloc, sizeDrew, sizeSet, sizePut] <;> omega) | fail) only [GS1, GS2, GS3, GS4, GS5, GS6, GS7, GS8, GS9, GS10, GS11, TT_eq, TTl, Nat.reduceAdd, Nat.reduceMul, Nat.reduceSub, Nat.reduceDiv, Nat.reduceMod, Nat.reducePow, Nat.reduceEqDiff, ↓reduceIte, reduceCtorEq, true_and, and_true, and_self, false_and, and_false, Int.reduceToNat, Int.reduceAdd, Int.reduceSub, Int.reduceMul, cond_true, cond_false, List.toList_toArray, Option.map_some, Option.map_none, Option.some.injEq, List.cons_append, List.nil_append, List.length_cons, List.length_nil, List.getD_cons_zero, List.getD_cons_succ]
    exact hR
set_option maxHeartbeats 4000000 in
theorem sNameC_cps (r : Nat) (hr : r ≤ 1114111) (w : World) (R : Ending → World → Prop) (hR : R (.returned (.bool (nmB r))) w) : Calls Try.prog 58 #[.int .i32 r] w R := by
  unfold nmB at hR
  refine calls_go 4000 okT Try.func58 rfl (rs := [.tmp 2]) rfl Try.ntmps58 (args := [.int .i32 r]) ?_
  have hc : r < 45 ∨ r = 45 ∨ r = 46 ∨ r = 47 ∨ (48 ≤ r ∧ r ≤ 57) ∨ (57 < r ∧ r < 97) ∨ (97 ≤ r ∧ r ≤ 122) ∨ 122 < r := by omega
  rcases hc with h | h | h | h | h | h | h | h
  · rw [decide_eq_false (by omega)] at hR
    simp (config := { maxSteps := 1000000 }) (disch := first | omega | (simp only [sizeAlloc, sizeDrew, sizeSet, sizePut] <;> omega) | fail) only [GS1, GS2, GS3, GS4, GS5, GS6, GS7, GS8, GS9, GS10, GS11, TT_eq, TTl, Nat.reduceAdd, Nat.reduceMul, Nat.reduceSub, Nat.reduceDiv, Nat.reduceMod, Nat.reducePow, Nat.reduceEqDiff, ↓reduceIte, reduceCtorEq, true_and, and_true, and_self, false_and, and_false, Int.reduceToNat, Int.reduceAdd, Int.reduceSub, Int.reduceMul, cond_true, cond_false, List.toList_toArray, Option.map_some, Option.map_none, Option.some.injEq, List.cons_append, List.nil_append, List.length_cons, List.length_nil, List.getD_cons_zero, List.getD_cons_succ]
    exact hR
  · rw [decide_eq_true (by omega)] at hR
    simp (config := { maxSteps := 1000000 }) (disch := first | omega | (simp only [sizeAlloc, sizeDrew, sizeSet, sizePut] <;> omega) | fail) only [GS1, GS2, GS3, GS4, GS5, GS6, GS7, GS8, GS9, GS10, GS11, TT_eq, TTl, Nat.reduceAdd, Nat.reduceMul, Nat.reduceSub, Nat.reduceDiv, Nat.reduceMod, Nat.reducePow, Nat.reduceEqDiff, ↓reduceIte, reduceCtorEq, true_and, and_true, and_self, false_and, and_false, Int.reduceToNat, Int.reduceAdd, Int.reduceSub, Int.reduceMul, cond_true, cond_false, List.toList_toArray, Option.map_some, Option.map_none, Option.some.injEq, List.cons_append, List.nil_append, List.length_cons, List.length_nil, List.getD_cons_zero, List.getD_cons_succ]
    exact hR
  · rw [decide_eq_true (by omega)] at hR
    simp (config := { maxSteps := 1000000 }) (disch := first | omega | (simp only [sizeAlloc, sizeDrew, sizeSet, sizePut] <;> omega) | fail) only [GS1, GS2, GS3, GS4, GS5, GS6, GS7, GS8, GS9, GS10, GS11, TT_eq, TTl, Nat.reduceAdd, Nat.reduceMul, Nat.reduceSub, Nat.reduceDiv, Nat.reduceMod, Nat.reducePow, Nat.reduceEqDiff, ↓reduceIte, reduceCtorEq, true_and, and_true, and_self, false_and, and_false, Int.reduceToNat, Int.reduceAdd, Int.reduceSub, Int.reduceMul, cond_true, cond_false, List.toList_toArray, Option.map_some, Option.map_none, Option.some.injEq, List.cons_append, List.nil_append, List.length_cons, List.length_nil, List.getD_cons_zero, List.getD_cons_succ]
    exact hR
  · rw [decide_eq_true (by omega)] at hR
    simp (config := { maxSteps := 1000000 }) (disch := first | omega | (simp only [sizeAlloc, sizeDrew, sizeSet, sizePut] <;> omega) | fail) only [GS1, GS2, GS3, GS4, GS5, GS6, GS7, GS8, GS9, GS10, GS11, TT_eq, TTl, Nat.reduceAdd, Nat.reduceMul, Nat.reduceSub, Nat.reduceDiv, Nat.reduceMod, Nat.reducePow, Nat.reduceEqDiff, ↓reduceIte, reduceCtorEq, true_and, and_true, and_self, false_and, and_false, Int.reduceToNat, Int.reduceAdd, Int.reduceSub, Int.reduceMul, cond_true, cond_false, List.toList_toArray, Option.map_some, Option.map_none, Option.some.injEq, List.cons_append, List.nil_append, List.length_cons, List.length_nil, List.getD_cons_zero, List.getD_cons_succ]
    exact hR
  · rw [decide_eq_true (by omega)] at hR
    simp (config := { maxSteps := 1000000 }) (disch := first | omega | (simp only [sizeAlloc, sizeDrew, sizeSet, sizePut] <;> omega) | fail) only [GS1, GS2, GS3, GS4, GS5, GS6, GS7, GS8, GS9, GS10, GS11, TT_eq, TTl, Nat.reduceAdd, Nat.reduceMul, Nat.reduceSub, Nat.reduceDiv, Nat.reduceMod, Nat.reducePow, Nat.reduceEqDiff, ↓reduceIte, reduceCtorEq, true_and, and_true, and_self, false_and, and_false, Int.reduceToNat, Int.reduceAdd, Int.reduceSub, Int.reduceMul, cond_true, cond_false, List.toList_toArray, Option.map_some, Option.map_none, Option.some.injEq, List.cons_append, List.nil_append, List.length_cons, List.length_nil, List.getD_cons_zero, List.getD_cons_succ]
    exact hR
  · rw [decide_eq_false (by omega)] at hR
    simp (config := { maxSteps := 1000000 }) (disch := first | omega | (simp only [sizeAlloc, sizeDrew, sizeSet, sizePut] <;> omega) | fail) only [GS1, GS2, GS3, GS4, GS5, GS6, GS7, GS8, GS9, GS10, GS11, TT_eq, TTl, Nat.reduceAdd, Nat.reduceMul, Nat.reduceSub, Nat.reduceDiv, Nat.reduceMod, Nat.reducePow, Nat.reduceEqDiff, ↓reduceIte, reduceCtorEq, true_and, and_true, and_self, false_and, and_false, Int.reduceToNat, Int.reduceAdd, Int.reduceSub, Int.reduceMul, cond_true, cond_false, List.toList_toArray, Option.map_some, Option.map_none, Option.some.injEq, List.cons_append, List.nil_append, List.length_cons, List.length_nil, List.getD_cons_zero, List.getD_cons_succ]
    exact hR
  · rw [decide_eq_true (by omega)] at hR
    simp (config := { maxSteps := 1000000 }) (disch := first | omega | (simp only [sizeAlloc, sizeDrew, sizeSet, sizePut] <;> omega) | fail) only [GS1, GS2, GS3, GS4, GS5, GS6, GS7, GS8, GS9, GS10, GS11, TT_eq, TTl, Nat.reduceAdd, Nat.reduceMul, Nat.reduceSub, Nat.reduceDiv, Nat.reduceMod, Nat.reducePow, Nat.reduceEqDiff, ↓reduceIte, reduceCtorEq, true_and, and_true, and_self, false_and, and_false, Int.reduceToNat, Int.reduceAdd, Int.reduceSub, Int.reduceMul, cond_true, cond_false, List.toList_toArray, Option.map_some, Option.map_none, Option.some.injEq, List.cons_append, List.nil_append, List.length_cons, List.length_nil, List.getD_cons_zero, List.getD_cons_succ]
    exact hR
  · rw [decide_eq_false (by omega)] at hR
    simp (config := { maxSteps := 1000000 }) (disch := first | omega | (simp only [sizeAlloc, sizeDrew, sizeSet, sizePut] <;> omega) | fail) only [GS1, GS2, GS3, GS4, GS5, GS6, GS7, GS8, GS9, GS10, GS11, TT_eq, TTl, Nat.reduceAdd, Nat.reduceMul, Nat.reduceSub, Nat.reduceDiv, Nat.reduceMod, Nat.reducePow, Nat.reduceEqDiff, ↓reduceIte, reduceCtorEq, true_and, and_true, and_self, false_and, and_false, Int.reduceToNat, Int.reduceAdd, Int.reduceSub, Int.reduceMul, cond_true, cond_false, List.toList_toArray, Option.map_some, Option.map_none, Option.some.injEq, List.cons_append, List.nil_append, List.length_cons, List.length_nil, List.getD_cons_zero, List.getD_cons_succ]
    exact hR
end Go.Proofs.Ytpcmebcfgmoipaa

set_option linter.unusedSimpArgs false
set_option linter.unusedVariables false
namespace Go.Proofs.Ytpcmebcfgmoipaa
open Go Go.Wk Go.RowKit
attribute [local irreducible] go Hold
open Go.Lib
def HX : List UInt8 := [48, 49, 50, 51, 52, 53, 54, 55, 56, 57, 97, 98, 99, 100, 101, 102]
theorem hx_ix (c : UInt8) (h : c.toNat < 128) : hxB c.toNat = decide (0 ≤ Lib.indexByte HX c) := by
  have key : ∀ x : Fin 128, hxB x.val = decide (0 ≤ Lib.indexByte HX (UInt8.ofNat x.val)) := by decide +kernel
  have := key ⟨c.toNat, h⟩
  simpa using this
set_option maxHeartbeats 4000000 in
theorem sHexC_cps (r : Nat) (hr : r ≤ 1114111) (w : World) (R : Ending → World → Prop) (hR : R (.returned (.bool (hxB r))) w) : Calls Try.prog 92 #[.int .i32 r] w R := by
  refine calls_go 4000 okT Try.func92 rfl (rs := [.tmp 2]) rfl Try.ntmps92 (args := [.int .i32 r]) ?_
  by_cases h : r < 128
  · obtain ⟨c, rfl⟩ : ∃ c : UInt8, r = c.toNat := ⟨UInt8.ofNat r, by simp; omega⟩
    rw [hx_ix c h] at hR
    simp (config := { maxSteps := 1000000 }) (disch := first | omega | (simp only [sizeAlloc, sizeDrew, sizeSet, sizePut] <;> omega) | fail) only [GS1, GS2, GS3, GS4, GS5, GS6, GS7, GS8, GS9, GS10, GS11, TT_eq, TTl, Nat.reduceAdd, Nat.reduceMul, Nat.reduceSub, Nat.reduceDiv, Nat.reduceMod, Nat.reducePow, Nat.reduceEqDiff, ↓reduceIte, reduceCtorEq, true_and, and_true, and_self, false_and, and_false, Int.reduceToNat, Int.reduceAdd, Int.reduceSub, Int.reduceMul, cond_true, cond_false, List.toList_toArray, Option.map_some, Option.map_none, Option.some.injEq, List.cons_append, List.nil_append, List.length_cons, List.length_nil, List.getD_cons_zero, List.getD_cons_succ]
    refine ⟨fok52, sIndexByte_cps HX c _ _ (.inl ⟨_, rfl, hold_ops okT (rs := [.tmp 2]) rfl ?_⟩)⟩
    generalize Lib.indexByte HX c = k at hR ⊢
    by_cases hk : 0 ≤ k
    · rw [decide_eq_true hk] at hR
      simp (config := { maxSteps := 1000000 }) (disch := first | omega | (simp only [sizeAlloc, sizeDrew, sizeSet, sizePut] <;> omega) | fail) only [GS1, GS2, GS3, GS4, GS5, GS6, GS7, GS8, GS9, GS10, GS11, TT_eq, TTl, Nat.reduceAdd, Nat.reduceMul, Nat.reduceSub, Nat.reduceDiv, Nat.reduceMod, Nat.reducePow, Nat.reduceEqDiff, ↓reduceIte, reduceCtorEq, true_and, and_true, and_self, false_and, and_false, Int.reduceToNat, Int.reduceAdd, Int.reduceSub, Int.reduceMul, cond_true, cond_false, List.toList_toArray, Option.map_some, Option.map_none, Option.some.injEq, List.cons_append, List.nil_append, List.length_cons, List.length_nil, List.getD_cons_zero, List.getD_cons_succ]
      exact hR
    · rw [decide_eq_false hk] at hR
      simp (config := { maxSteps := 1000000 }) (disch := first | omega | (simp only [sizeAlloc, sizeDrew, sizeSet, sizePut] <;> omega) | fail) only [GS1, GS2, GS3, GS4, GS5, GS6, GS7, GS8, GS9, GS10, GS11, TT_eq, TTl, Nat.reduceAdd, Nat.reduceMul, Nat.reduceSub, Nat.reduceDiv, Nat.reduceMod, Nat.reducePow, Nat.reduceEqDiff, ↓reduceIte, reduceCtorEq, true_and, and_true, and_self, false_and, and_false, Int.reduceToNat, Int.reduceAdd, Int.reduceSub, Int.reduceMul, cond_true, cond_false, List.toList_toArray, Option.map_some, Option.map_none, Option.some.injEq, List.cons_append, List.nil_append, List.length_cons, List.length_nil, List.getD_cons_zero, List.getD_cons_succ]
      exact hR
  · have : hxB r = false := by unfold hxB; exact decide_eq_false (by omega)
    rw [this] at hR
    simp (config := { maxSteps := 1000000 }) (disch := first | omega | (simp only [sizeAlloc, sizeDrew, sizeSet, sizePut] <;> omega) | fail) only [GS1, GS2, GS3, GS4, GS5, GS6, GS7, GS8, GS9, GS10, GS11, TT_eq, TTl, Nat.reduceAdd, Nat.reduceMul, Nat.reduceSub, Nat.reduceDiv, Nat.reduceMod, Nat.reducePow, Nat.reduceEqDiff, ↓reduceIte, reduceCtorEq, true_and, and_true, and_self, false_and, and_false, Int.reduceToNat, Int.reduceAdd, Int.reduceSub, Int.reduceMul, cond_true, cond_false, List.toList_toArray, Option.map_some, Option.map_none, Option.some.injEq, List.cons_append, List.nil_append, List.length_cons, List.length_nil, List.getD_cons_zero, List.getD_cons_succ]
    exact hR
/-- How many bytes the first runes have that are so. -/
def whlF (so : Nat → Bool) : Nat → List UInt8 → Nat
  | 0, _ => 0
  | f + 1, l => if l.length = 0 then 0 else if so (decodeL l).1 = true then (decodeL l).2 + whlF so f (l.drop (decodeL l).2) else 0
def whlS (so : Nat → Bool) (l : List UInt8) : Nat := whlF so l.length l
theorem dec_drop (s : List UInt8) (p : Nat) : Utf8.decode (⟨s.toArray⟩ : ByteArray) p = decodeL (s.drop p) := by
  unfold decodeL
  have h := tail_decode (⟨s.toArray⟩ : ByteArray) p 0
  rw [Nat.add_zero] at h
  rw [← h, Go.Lib.Pa.extract_from]
theorem decL_pos {l : List UInt8} (h : l.length ≠ 0) : 1 ≤ (decodeL l).2 ∧ (decodeL l).2 ≤ l.length :=
  ⟨decode_width_pos _ 0 (by show 0 < l.toArray.size; simp; omega), decodeL_le l (fun e => h (by rw [e]; rfl))⟩
theorem decL_max (l : List UInt8) : (decodeL l).1 ≤ 1114111 := by
  have := decode_val (⟨l.toArray⟩ : ByteArray) 0
  unfold decodeL
  simp [Utf8.valid] at this
  omega
theorem whlF_le (so : Nat → Bool) : ∀ (f : Nat) (l : List UInt8), whlF so f l ≤ l.length
  | 0, l => Nat.zero_le _
  | f + 1, l => by
    unfold whlF
    split
    · omega
    · rename_i h0
      split
      · have h1 := whlF_le so f (l.drop (decodeL l).2)
        have h2 := decL_pos h0
        rw [List.length_drop] at h1
        omega
      · omega
theorem whlS_le (so : Nat → Bool) (l : List UInt8) : whlS so l ≤ l.length := whlF_le so _ l
set_option maxHeartbeats 4000000 in
theorem while_cps (g : Nat) (hg : FOk Try.prog g) (so : Nat → Bool) (hso : ∀ (r : Nat) (w : World) (R : Ending → World → Prop), r ≤ 1114111 → R (.returned (.bool (so r))) w → Calls Try.prog g #[.int .i32 r] w R) (s : List UInt8) (hs : s.length ≤ maxLen) (w : World) (R : Ending → World → Prop)
    (hR : ∀ w', Mod [] w w' → R (.returned (.int .i64 (whlS so s))) w') : Calls Try.prog 45 #[.string ⟨s.toArray⟩, .func (.func g) #[] #[]] w R := by
  unfold maxLen at hs
  refine calls_go 4000 okT Try.func45 rfl (rs := [.tmp 4]) rfl Try.ntmps45 (args := [.string ⟨s.toArray⟩, .func (.func g) #[] #[]]) ?_
  simp (config := { maxSteps := 1000000 }) (disch := first | omega | (simp only [sizeAlloc, sizeDrew, sizeSet, sizePut] <;> omega) | fail) only [GS1, GS2, GS3, GS4, GS5, GS6, GS7, GS8, GS9, GS10, GS11, TT_eq, TTl, Nat.reduceAdd, Nat.reduceMul, Nat.reduceSub, Nat.reduceDiv, Nat.reduceMod, Nat.reducePow, Nat.reduceEqDiff, ↓reduceIte, reduceCtorEq, true_and, and_true, and_self, false_and, and_false, Int.reduceToNat, Int.reduceAdd, Int.reduceSub, Int.reduceMul, cond_true, cond_false, List.toList_toArray, Option.map_some, Option.map_none, Option.some.injEq, List.cons_append, List.nil_append, List.length_cons, List.length_nil, List.getD_cons_zero, List.getD_cons_succ]
  refine hold_range okT rfl rfl rfl (hold_ops okT (rs := [.tmp 4]) rfl ?_)
  simp (config := { maxSteps := 1000000 }) (disch := first | omega | (simp only [sizeAlloc, sizeDrew, sizeSet, sizePut] <;> omega) | fail) only [GS1, GS2, GS3, GS4, GS5, GS6, GS7, GS8, GS9, GS10, GS11, TT_eq, TTl, Nat.reduceAdd, Nat.reduceMul, Nat.reduceSub, Nat.reduceDiv, Nat.reduceMod, Nat.reducePow, Nat.reduceEqDiff, ↓reduceIte, reduceCtorEq, true_and, and_true, and_self, false_and, and_false, Int.reduceToNat, Int.reduceAdd, Int.reduceSub, Int.reduceMul, cond_true, cond_false, List.toList_toArray, Option.map_some, Option.map_none, Option.some.injEq, List.cons_append, List.nil_append, List.length_cons, List.length_nil, List.getD_cons_zero, List.getD_cons_succ]
  refine hold_loop okT (rs := [.tmp 4]) rfl [] [4, 5, 6, 9, 10, 11, 12, 13, 14, 15, 16, 17] (fun vs w' => vs = [] ∧ ∃ pos f : Nat, pos ≤ s.length ∧ s.length - pos ≤ f ∧ whlS so s = pos + whlF so f (s.drop pos) ∧ w'.heap[w.heap.size]? = some (.stringIter ⟨s.toArray⟩ pos) ∧ Mod [] w w') (fun _ w' => match w'.heap[w.heap.size]? with | some (.stringIter _ p) => s.length - p | _ => 0) (by kernel_rfl)
    ⟨rfl, 0, s.length, by omega, by omega, by rw [List.drop_zero, Nat.zero_add]; rfl, heapNew, (Mod.refl _ _).alloc _⟩ ?_
  rintro vs w1 J ⟨rfl, pos, f, hle, hf, hwh, hit, hM⟩
  simp (config := { maxSteps := 1000000 }) (disch := first | omega | (simp only [sizeAlloc, sizeDrew, sizeSet, sizePut] <;> omega) | fail) only [GS1, GS2, GS3, GS4, GS5, GS6, GS7, GS8, GS9, GS10, GS11, TT_eq, TTl, Nat.reduceAdd, Nat.reduceMul, Nat.reduceSub, Nat.reduceDiv, Nat.reduceMod, Nat.reducePow, Nat.reduceEqDiff, ↓reduceIte, reduceCtorEq, true_and, and_true, and_self, false_and, and_false, Int.reduceToNat, Int.reduceAdd, Int.reduceSub, Int.reduceMul, cond_true, cond_false, List.toList_toArray, Option.map_some, Option.map_none, Option.some.injEq, List.cons_append, List.nil_append, List.length_cons, List.length_nil, List.getD_cons_zero, List.getD_cons_succ]
  by_cases hp : pos < s.length
  · refine hold_next rfl rfl hit hp ?_
    rw [dec_drop]
    obtain ⟨f, rfl⟩ : ∃ f', f = f' + 1 := ⟨f - 1, by omega⟩
    unfold whlF at hwh
    have hdl : (s.drop pos).length = s.length - pos := List.length_drop
    rw [if_neg (by omega)] at hwh
    have h1 := decL_pos (l := s.drop pos) (by omega)
    have h2 := decL_max (s.drop pos)
    generalize decodeL (s.drop pos) = d at hwh h1 h2 ⊢
    obtain ⟨x, n⟩ := d
    simp only at hwh h1 h2
    refine hold_ops okT (rs := [.tmp 4]) rfl ?_
    simp (config := { maxSteps := 1000000 }) (disch := first | omega | (simp only [sizeAlloc, sizeDrew, sizeSet, sizePut] <;> omega) | fail) only [GS1, GS2, GS3, GS4, GS5, GS6, GS7, GS8, GS9, GS10, GS11, TT_eq, TTl, Nat.reduceAdd, Nat.reduceMul, Nat.reduceSub, Nat.reduceDiv, Nat.reduceMod, Nat.reducePow, Nat.reduceEqDiff, ↓reduceIte, reduceCtorEq, true_and, and_true, and_self, false_and, and_false, Int.reduceToNat, Int.reduceAdd, Int.reduceSub, Int.reduceMul, cond_true, cond_false, List.toList_toArray, Option.map_some, Option.map_none, Option.some.injEq, List.cons_append, List.nil_append, List.length_cons, List.length_nil, List.getD_cons_zero, List.getD_cons_succ]
    refine ⟨hg, hso x _ _ h2 (.inl ⟨_, rfl, hold_ops okT (rs := [.tmp 4]) rfl ?_⟩)⟩
    have hM1 := hM.put (l := w.heap.size) (.inr (Nat.le_refl _)) (.stringIter ⟨s.toArray⟩ (pos + n))
    have hit1 : (w1.putObj w.heap.size (.stringIter ⟨s.toArray⟩ (pos + n))).heap[w.heap.size]? = some (.stringIter ⟨s.toArray⟩ (pos + n)) := by
      simp only [World.putObj, Array.getElem?_setIfInBounds]; rw [if_pos trivial, if_pos (ltOf hit)]
    generalize so x = b at hwh ⊢
    cases b
    · rw [if_neg (by simp), Nat.add_zero] at hwh
      rw [hwh] at hR
      simp (config := { maxSteps := 1000000 }) (disch := first | omega | (simp only [sizeAlloc, sizeDrew, sizeSet, sizePut] <;> omega) | fail) only [GS1, GS2, GS3, GS4, GS5, GS6, GS7, GS8, GS9, GS10, GS11, TT_eq, TTl, Nat.reduceAdd, Nat.reduceMul, Nat.reduceSub, Nat.reduceDiv, Nat.reduceMod, Nat.reducePow, Nat.reduceEqDiff, ↓reduceIte, reduceCtorEq, true_and, and_true, and_self, false_and, and_false, Int.reduceToNat, Int.reduceAdd, Int.reduceSub, Int.reduceMul, cond_true, cond_false, List.toList_toArray, Option.map_some, Option.map_none, Option.some.injEq, List.cons_append, List.nil_append, List.length_cons, List.length_nil, List.getD_cons_zero, List.getD_cons_succ]
      exact hR _ hM1
    · rw [if_pos rfl] at hwh
      simp (config := { maxSteps := 1000000 }) (disch := first | omega | (simp only [sizeAlloc, sizeDrew, sizeSet, sizePut] <;> omega) | fail) only [GS1, GS2, GS3, GS4, GS5, GS6, GS7, GS8, GS9, GS10, GS11, TT_eq, TTl, Nat.reduceAdd, Nat.reduceMul, Nat.reduceSub, Nat.reduceDiv, Nat.reduceMod, Nat.reducePow, Nat.reduceEqDiff, ↓reduceIte, reduceCtorEq, true_and, and_true, and_self, false_and, and_false, Int.reduceToNat, Int.reduceAdd, Int.reduceSub, Int.reduceMul, cond_true, cond_false, List.toList_toArray, Option.map_some, Option.map_none, Option.some.injEq, List.cons_append, List.nil_append, List.length_cons, List.length_nil, List.getD_cons_zero, List.getD_cons_succ]
      refine ⟨⟨pos + n, f, by omega, by omega, ?_, hit1, hM1⟩, ?_⟩
      · rw [hwh, List.drop_drop, Nat.add_assoc]
      · rw [hit1, hit]
        show s.length - (pos + n) < s.length - pos
        omega
  · refine hold_over rfl rfl hit hp ?_
    refine hold_ops okT (rs := [.tmp 4]) rfl ?_
    have e : pos = s.length := by omega
    subst e
    have : whlF so f (s.drop s.length) = 0 := by
      rw [List.drop_length]
      cases f <;> simp [whlF]
    rw [this, Nat.add_zero] at hwh
    rw [hwh] at hR
    simp (config := { maxSteps := 1000000 }) (disch := first | omega | (simp only [sizeAlloc, sizeDrew, sizeSet, sizePut] <;> omega) | fail) only [GS1, GS2, GS3, GS4, GS5, GS6, GS7, GS8, GS9, GS10, GS11, TT_eq, TTl, Nat.reduceAdd, Nat.reduceMul, Nat.reduceSub, Nat.reduceDiv, Nat.reduceMod, Nat.reducePow, Nat.reduceEqDiff, ↓reduceIte, reduceCtorEq, true_and, and_true, and_self, false_and, and_false, Int.reduceToNat, Int.reduceAdd, Int.reduceSub, Int.reduceMul, cond_true, cond_false, List.toList_toArray, Option.map_some, Option.map_none, Option.some.injEq, List.cons_append, List.nil_append, List.length_cons, List.length_nil, List.getD_cons_zero, List.getD_cons_succ]
    exact hR _ hM
def plainS (s : List UInt8) : Bool := decide (whlS plB s = s.length)
set_option maxHeartbeats 2000000 in
theorem sPlainS_cps (s : List UInt8) (hs : s.length ≤ maxLen) (w : World) (R : Ending → World → Prop) (hR : ∀ w', Mod [] w w' → R (.returned (.bool (plainS s))) w') : Calls Try.prog 20 #[.string ⟨s.toArray⟩] w R := by
  unfold plainS at hR
  have hs' := hs
  unfold maxLen at hs
  refine calls_go 4000 okT Try.func20 rfl (rs := [.tmp 2]) rfl Try.ntmps20 (args := [.string ⟨s.toArray⟩]) ?_
  simp (config := { maxSteps := 1000000 }) (disch := first | omega | (simp only [sizeAlloc, sizeDrew, sizeSet, sizePut] <;> omega) | fail) only [GS1, GS2, GS3, GS4, GS5, GS6, GS7, GS8, GS9, GS10, GS11, TT_eq, TTl, Nat.reduceAdd, Nat.reduceMul, Nat.reduceSub, Nat.reduceDiv, Nat.reduceMod, Nat.reducePow, Nat.reduceEqDiff, ↓reduceIte, reduceCtorEq, true_and, and_true, and_self, false_and, and_false, Int.reduceToNat, Int.reduceAdd, Int.reduceSub, Int.reduceMul, cond_true, cond_false, List.toList_toArray, Option.map_some, Option.map_none, Option.some.injEq, List.cons_append, List.nil_append, List.length_cons, List.length_nil, List.getD_cons_zero, List.getD_cons_succ]
  refine ⟨fok45, while_cps 46 fok46 plB (fun r w R h1 h2 => sPlain_cps r h1 w R h2) s hs' _ _ fun w1 hM => .inl ⟨_, rfl, hold_ops okT (rs := [.tmp 2]) rfl ?_⟩⟩
  have hle := whlS_le plB s
  generalize whlS plB s = k at hR hle ⊢
  by_cases hk : k = s.length
  · rw [decide_eq_true hk] at hR
    simp (config := { maxSteps := 1000000 }) (disch := first | omega | (simp only [sizeAlloc, sizeDrew, sizeSet, sizePut] <;> omega) | fail) only [GS1, GS2, GS3, GS4, GS5, GS6, GS7, GS8, GS9, GS10, GS11, TT_eq, TTl, Nat.reduceAdd, Nat.reduceMul, Nat.reduceSub, Nat.reduceDiv, Nat.reduceMod, Nat.reducePow, Nat.reduceEqDiff, ↓reduceIte, reduceCtorEq, true_and, and_true, and_self, false_and, and_false, Int.reduceToNat, Int.reduceAdd, Int.reduceSub, Int.reduceMul, cond_true, cond_false, List.toList_toArray, Option.map_some, Option.map_none, Option.some.injEq, List.cons_append, List.nil_append, List.length_cons, List.length_nil, List.getD_cons_zero, List.getD_cons_succ]
    exact hR _ hM
  · rw [decide_eq_false hk] at hR
    simp (config := { maxSteps := 1000000 }) (disch := first | omega | (simp only [sizeAlloc, sizeDrew, sizeSet, sizePut] <;> omega) | fail) only [GS1, GS2, GS3, GS4, GS5, GS6, GS7, GS8, GS9, GS10, GS11, TT_eq, TTl, Nat.reduceAdd, Nat.reduceMul, Nat.reduceSub, Nat.reduceDiv, Nat.reduceMod, Nat.reducePow, Nat.reduceEqDiff, ↓reduceIte, reduceCtorEq, true_and, and_true, and_self, false_and, and_false, Int.reduceToNat, Int.reduceAdd, Int.reduceSub, Int.reduceMul, cond_true, cond_false, List.toList_toArray, Option.map_some, Option.map_none, Option.some.injEq, List.cons_append, List.nil_append, List.length_cons, List.length_nil, List.getD_cons_zero, List.getD_cons_succ]
    exact hR _ hM
end Go.Proofs.Ytpcmebcfgmoipaa

set_option linter.unusedSimpArgs false
set_option linter.unusedVariables false
namespace Go.Proofs.Ytpcmebcfgmoipaa
open Go Go.Wk Go.RowKit
attribute [local irreducible] go Hold
open Go.Lib
def noneV : List PanicEntry := [{ v := .iface 42 (.agg #[]), recovered := false }]
set_option maxHeartbeats 1000000 in
theorem sMust_cps (b : Bool) (w : World) (R : Ending → World → Prop) (h1 : b = true → R (.returned (.tuple #[])) w) (h0 : b = false → R (.panicked noneV) w) : Calls Try.prog 33 #[.bool b] w R := by
  refine calls_go 4000 okT Try.func33 rfl (rs := []) rfl Try.ntmps33 (args := [.bool b]) ?_
  cases b
  · simp (config := { maxSteps := 1000000 }) (disch := first | omega | (simp only [sizeAlloc, sizeDrew, sizeSet, sizePut] <;> omega) | fail) only [GS1, GS2, GS3, GS4, GS5, GS6, GS7, GS8, GS9, GS10, GS11, TT_eq, TTl, Nat.reduceAdd, Nat.reduceMul, Nat.reduceSub, Nat.reduceDiv, Nat.reduceMod, Nat.reducePow, Nat.reduceEqDiff, ↓reduceIte, reduceCtorEq, true_and, and_true, and_self, false_and, and_false, Int.reduceToNat, Int.reduceAdd, Int.reduceSub, Int.reduceMul, cond_true, cond_false, List.toList_toArray, Option.map_some, Option.map_none, Option.some.injEq, List.cons_append, List.nil_append, List.length_cons, List.length_nil, List.getD_cons_zero, List.getD_cons_succ]
    unfold panW
    refine hold_ex okT (rs := []) rfl ?_
    simp (config := { maxSteps := 1000000 }) (disch := first | omega | (simp only [sizeAlloc, sizeDrew, sizeSet, sizePut] <;> omega) | fail) only [GS1, GS2, GS3, GS4, GS5, GS6, GS7, GS8, GS9, GS10, GS11, TT_eq, TTl, Nat.reduceAdd, Nat.reduceMul, Nat.reduceSub, Nat.reduceDiv, Nat.reduceMod, Nat.reducePow, Nat.reduceEqDiff, ↓reduceIte, reduceCtorEq, true_and, and_true, and_self, false_and, and_false, Int.reduceToNat, Int.reduceAdd, Int.reduceSub, Int.reduceMul, cond_true, cond_false, List.toList_toArray, Option.map_some, Option.map_none, Option.some.injEq, List.cons_append, List.nil_append, List.length_cons, List.length_nil, List.getD_cons_zero, List.getD_cons_succ]
    exact h0 rfl
  · simp (config := { maxSteps := 1000000 }) (disch := first | omega | (simp only [sizeAlloc, sizeDrew, sizeSet, sizePut] <;> omega) | fail) only [GS1, GS2, GS3, GS4, GS5, GS6, GS7, GS8, GS9, GS10, GS11, TT_eq, TTl, Nat.reduceAdd, Nat.reduceMul, Nat.reduceSub, Nat.reduceDiv, Nat.reduceMod, Nat.reducePow, Nat.reduceEqDiff, ↓reduceIte, reduceCtorEq, true_and, and_true, and_self, false_and, and_false, Int.reduceToNat, Int.reduceAdd, Int.reduceSub, Int.reduceMul, cond_true, cond_false, List.toList_toArray, Option.map_some, Option.map_none, Option.some.injEq, List.cons_append, List.nil_append, List.length_cons, List.length_nil, List.getD_cons_zero, List.getD_cons_succ]
    exact h1 rfl
set_option maxHeartbeats 1000000 in
theorem sHad_cps (t : List UInt8) (e : Int) (w : World) (R : Ending → World → Prop) (h1 : e = 0 → R (.returned (.string ⟨t.toArray⟩)) w) (h0 : e ≠ 0 → R (.panicked noneV) w) : Calls Try.prog 59 #[.string ⟨t.toArray⟩, .int .i64 e] w R := by
  refine calls_go 4000 okT Try.func59 rfl (rs := [.tmp 4]) rfl Try.ntmps59 (args := [.string ⟨t.toArray⟩, .int .i64 e]) ?_
  by_cases he : e = 0
  · subst he
    simp (config := { maxSteps := 1000000 }) (disch := first | omega | (simp only [sizeAlloc, sizeDrew, sizeSet, sizePut] <;> omega) | fail) only [GS1, GS2, GS3, GS4, GS5, GS6, GS7, GS8, GS9, GS10, GS11, TT_eq, TTl, Nat.reduceAdd, Nat.reduceMul, Nat.reduceSub, Nat.reduceDiv, Nat.reduceMod, Nat.reducePow, Nat.reduceEqDiff, ↓reduceIte, reduceCtorEq, true_and, and_true, and_self, false_and, and_false, Int.reduceToNat, Int.reduceAdd, Int.reduceSub, Int.reduceMul, cond_true, cond_false, List.toList_toArray, Option.map_some, Option.map_none, Option.some.injEq, List.cons_append, List.nil_append, List.length_cons, List.length_nil, List.getD_cons_zero, List.getD_cons_succ]
    refine ⟨fok33, sMust_cps true _ _ (fun _ => .inl ⟨_, rfl, hold_ops okT (rs := [.tmp 4]) rfl ?_⟩) (fun h => absurd h (by simp))⟩
    simp (config := { maxSteps := 1000000 }) (disch := first | omega | (simp only [sizeAlloc, sizeDrew, sizeSet, sizePut] <;> omega) | fail) only [GS1, GS2, GS3, GS4, GS5, GS6, GS7, GS8, GS9, GS10, GS11, TT_eq, TTl, Nat.reduceAdd, Nat.reduceMul, Nat.reduceSub, Nat.reduceDiv, Nat.reduceMod, Nat.reducePow, Nat.reduceEqDiff, ↓reduceIte, reduceCtorEq, true_and, and_true, and_self, false_and, and_false, Int.reduceToNat, Int.reduceAdd, Int.reduceSub, Int.reduceMul, cond_true, cond_false, List.toList_toArray, Option.map_some, Option.map_none, Option.some.injEq, List.cons_append, List.nil_append, List.length_cons, List.length_nil, List.getD_cons_zero, List.getD_cons_succ]
    exact h1 rfl
  · simp (config := { maxSteps := 1000000 }) (disch := first | omega | (simp only [sizeAlloc, sizeDrew, sizeSet, sizePut] <;> omega) | fail) only [GS1, GS2, GS3, GS4, GS5, GS6, GS7, GS8, GS9, GS10, GS11, TT_eq, TTl, Nat.reduceAdd, Nat.reduceMul, Nat.reduceSub, Nat.reduceDiv, Nat.reduceMod, Nat.reducePow, Nat.reduceEqDiff, ↓reduceIte, reduceCtorEq, true_and, and_true, and_self, false_and, and_false, Int.reduceToNat, Int.reduceAdd, Int.reduceSub, Int.reduceMul, cond_true, cond_false, List.toList_toArray, Option.map_some, Option.map_none, Option.some.injEq, List.cons_append, List.nil_append, List.length_cons, List.length_nil, List.getD_cons_zero, List.getD_cons_succ, he]
    refine ⟨fok33, sMust_cps false _ _ (fun h => absurd h (by simp)) (fun _ => .inr ⟨_, rfl, hold_ex okT (rs := [.tmp 4]) rfl ?_⟩)⟩
    simp (config := { maxSteps := 1000000 }) (disch := first | omega | (simp only [sizeAlloc, sizeDrew, sizeSet, sizePut] <;> omega) | fail) only [GS1, GS2, GS3, GS4, GS5, GS6, GS7, GS8, GS9, GS10, GS11, TT_eq, TTl, Nat.reduceAdd, Nat.reduceMul, Nat.reduceSub, Nat.reduceDiv, Nat.reduceMod, Nat.reducePow, Nat.reduceEqDiff, ↓reduceIte, reduceCtorEq, true_and, and_true, and_self, false_and, and_false, Int.reduceToNat, Int.reduceAdd, Int.reduceSub, Int.reduceMul, cond_true, cond_false, List.toList_toArray, Option.map_some, Option.map_none, Option.some.injEq, List.cons_append, List.nil_append, List.length_cons, List.length_nil, List.getD_cons_zero, List.getD_cons_succ]
    exact h0 he
/-- What is left of a line. -/
def Rdr (w : World) (rp : Nat) (s : List UInt8) : Prop := w.heap[rp]? = some (.cells #[.string ⟨s.toArray⟩] 46 (0, 0))
set_option maxHeartbeats 2000000 in
theorem sCut_cps (rp : Nat) (s : List UInt8) (n : Nat) (hs : s.length ≤ maxLen) (hn : n ≤ maxLen) (w : World) (R : Ending → World → Prop) (h : Rdr w rp s) (h1 : n ≤ s.length → ∀ w', Rdr w' rp (s.drop n) → Mod [rp] w w' → R (.returned (.string ⟨(s.take n).toArray⟩)) w') (h0 : s.length < n → R (.panicked noneV) w) :
    Calls Try.prog 57 #[.pointer (some ⟨rp, 0, none⟩), .int .i64 n] w R := by
  unfold maxLen at hs hn
  have c0 := cellOf (o := 0) h
  have f0 := frozenOf (o := 0) h
  refine calls_go 4000 okT Try.func57 rfl (rs := [.tmp 4]) rfl Try.ntmps57 (args := [.pointer (some ⟨rp, 0, none⟩), .int .i64 n]) ?_
  by_cases hle : n ≤ s.length
  · simp (config := { maxSteps := 1000000 }) (disch := first | omega | (simp only [sizeAlloc, sizeDrew, sizeSet, sizePut] <;> omega) | fail) only [GS1, GS2, GS3, GS4, GS5, GS6, GS7, GS8, GS9, GS10, GS11, TT_eq, TTl, Nat.reduceAdd, Nat.reduceMul, Nat.reduceSub, Nat.reduceDiv, Nat.reduceMod, Nat.reducePow, Nat.reduceEqDiff, ↓reduceIte, reduceCtorEq, true_and, and_true, and_self, false_and, and_false, Int.reduceToNat, Int.reduceAdd, Int.reduceSub, Int.reduceMul, cond_true, cond_false, List.toList_toArray, Option.map_some, Option.map_none, Option.some.injEq, List.cons_append, List.nil_append, List.length_cons, List.length_nil, List.getD_cons_zero, List.getD_cons_succ, c0]
    refine ⟨fok33, sMust_cps true _ _ (fun _ => .inl ⟨_, rfl, hold_ops okT (rs := [.tmp 4]) rfl ?_⟩) (fun h => absurd h (by simp))⟩
    simp (config := { maxSteps := 1000000 }) (disch := first | omega | (simp only [sizeAlloc, sizeDrew, sizeSet, sizePut] <;> omega) | fail) only [GS1, GS2, GS3, GS4, GS5, GS6, GS7, GS8, GS9, GS10, GS11, TT_eq, TTl, Nat.reduceAdd, Nat.reduceMul, Nat.reduceSub, Nat.reduceDiv, Nat.reduceMod, Nat.reducePow, Nat.reduceEqDiff, ↓reduceIte, reduceCtorEq, true_and, and_true, and_self, false_and, and_false, Int.reduceToNat, Int.reduceAdd, Int.reduceSub, Int.reduceMul, cond_true, cond_false, List.toList_toArray, Option.map_some, Option.map_none, Option.some.injEq, List.cons_append, List.nil_append, List.length_cons, List.length_nil, List.getD_cons_zero, List.getD_cons_succ, c0, f0]
    exact h1 hle _ (heapSet h) ((Mod.refl [rp] w).set (.inl (by simp)) _)
  · simp (config := { maxSteps := 1000000 }) (disch := first | omega | (simp only [sizeAlloc, sizeDrew, sizeSet, sizePut] <;> omega) | fail) only [GS1, GS2, GS3, GS4, GS5, GS6, GS7, GS8, GS9, GS10, GS11, TT_eq, TTl, Nat.reduceAdd, Nat.reduceMul, Nat.reduceSub, Nat.reduceDiv, Nat.reduceMod, Nat.reducePow, Nat.reduceEqDiff, ↓reduceIte, reduceCtorEq, true_and, and_true, and_self, false_and, and_false, Int.reduceToNat, Int.reduceAdd, Int.reduceSub, Int.reduceMul, cond_true, cond_false, List.toList_toArray, Option.map_some, Option.map_none, Option.some.injEq, List.cons_append, List.nil_append, List.length_cons, List.length_nil, List.getD_cons_zero, List.getD_cons_succ, c0]
    refine ⟨fok33, sMust_cps false _ _ (fun h => absurd h (by simp)) (fun _ => .inr ⟨_, rfl, hold_ex okT (rs := [.tmp 4]) rfl ?_⟩)⟩
    simp (config := { maxSteps := 1000000 }) (disch := first | omega | (simp only [sizeAlloc, sizeDrew, sizeSet, sizePut] <;> omega) | fail) only [GS1, GS2, GS3, GS4, GS5, GS6, GS7, GS8, GS9, GS10, GS11, TT_eq, TTl, Nat.reduceAdd, Nat.reduceMul, Nat.reduceSub, Nat.reduceDiv, Nat.reduceMod, Nat.reducePow, Nat.reduceEqDiff, ↓reduceIte, reduceCtorEq, true_and, and_true, and_self, false_and, and_false, Int.reduceToNat, Int.reduceAdd, Int.reduceSub, Int.reduceMul, cond_true, cond_false, List.toList_toArray, Option.map_some, Option.map_none, Option.some.injEq, List.cons_append, List.nil_append, List.length_cons, List.length_nil, List.getD_cons_zero, List.getD_cons_succ]
    exact h0 (by omega)
def preS (g s : List UInt8) : Bool := decide (s.take g.length = g)
set_option maxHeartbeats 2000000 in
theorem slPrefix_cps (s g : List UInt8) (hs : s.length ≤ maxLen) (hg : g.length ≤ maxLen) (w : World) (R : Ending → World → Prop) (hR : R (.returned (.bool (preS g s))) w) : Calls Try.prog 107 #[.string ⟨s.toArray⟩, .string ⟨g.toArray⟩] w R := by
  unfold maxLen at hs hg
  unfold preS at hR
  refine calls_go 4000 okT Try.func107 rfl (rs := [.tmp 4]) rfl Try.ntmps107 (args := [.string ⟨s.toArray⟩, .string ⟨g.toArray⟩]) ?_
  by_cases hle : g.length ≤ s.length
  · by_cases he : s.take g.length = g
    · rw [decide_eq_true he] at hR
      simp (config := { maxSteps := 1000000 }) (disch := first | omega | (simp only [sizeAlloc, sizeDrew, sizeSet, sizePut] <;> omega) | fail) only [GS1, GS2, GS3, GS4, GS5, GS6, GS7, GS8, GS9, GS10, GS11, TT_eq, TTl, Nat.reduceAdd, Nat.reduceMul, Nat.reduceSub, Nat.reduceDiv, Nat.reduceMod, Nat.reducePow, Nat.reduceEqDiff, ↓reduceIte, reduceCtorEq, true_and, and_true, and_self, false_and, and_false, Int.reduceToNat, Int.reduceAdd, Int.reduceSub, Int.reduceMul, cond_true, cond_false, List.toList_toArray, Option.map_some, Option.map_none, Option.some.injEq, List.cons_append, List.nil_append, List.length_cons, List.length_nil, List.getD_cons_zero, List.getD_cons_succ, he, eq_self]
      exact hR
    · rw [decide_eq_false he] at hR
      simp (config := { maxSteps := 1000000 }) (disch := first | omega | (simp only [sizeAlloc, sizeDrew, sizeSet, sizePut] <;> omega) | fail) only [GS1, GS2, GS3, GS4, GS5, GS6, GS7, GS8, GS9, GS10, GS11, TT_eq, TTl, Nat.reduceAdd, Nat.reduceMul, Nat.reduceSub, Nat.reduceDiv, Nat.reduceMod, Nat.reducePow, Nat.reduceEqDiff, ↓reduceIte, reduceCtorEq, true_and, and_true, and_self, false_and, and_false, Int.reduceToNat, Int.reduceAdd, Int.reduceSub, Int.reduceMul, cond_true, cond_false, List.toList_toArray, Option.map_some, Option.map_none, Option.some.injEq, List.cons_append, List.nil_append, List.length_cons, List.length_nil, List.getD_cons_zero, List.getD_cons_succ, he]
      exact hR
  · rw [decide_eq_false (fun e => hle (by have := congrArg List.length e; rw [List.length_take] at this; omega))] at hR
    simp (config := { maxSteps := 1000000 }) (disch := first | omega | (simp only [sizeAlloc, sizeDrew, sizeSet, sizePut] <;> omega) | fail) only [GS1, GS2, GS3, GS4, GS5, GS6, GS7, GS8, GS9, GS10, GS11, TT_eq, TTl, Nat.reduceAdd, Nat.reduceMul, Nat.reduceSub, Nat.reduceDiv, Nat.reduceMod, Nat.reducePow, Nat.reduceEqDiff, ↓reduceIte, reduceCtorEq, true_and, and_true, and_self, false_and, and_false, Int.reduceToNat, Int.reduceAdd, Int.reduceSub, Int.reduceMul, cond_true, cond_false, List.toList_toArray, Option.map_some, Option.map_none, Option.some.injEq, List.cons_append, List.nil_append, List.length_cons, List.length_nil, List.getD_cons_zero, List.getD_cons_succ]
    exact hR
set_option maxHeartbeats 1000000 in
theorem sPrefix_cps (s g : List UInt8) (hs : s.length ≤ maxLen) (hg : g.length ≤ maxLen) (w : World) (R : Ending → World → Prop) (hR : R (.returned (.bool (preS g s))) w) : Calls Try.prog 91 #[.string ⟨s.toArray⟩, .string ⟨g.toArray⟩] w R := by
  refine calls_go 4000 okT Try.func91 rfl (rs := [.tmp 4]) rfl Try.ntmps91 (args := [.string ⟨s.toArray⟩, .string ⟨g.toArray⟩]) ?_
  simp (config := { maxSteps := 1000000 }) (disch := first | omega | (simp only [sizeAlloc, sizeDrew, sizeSet, sizePut] <;> omega) | fail) only [GS1, GS2, GS3, GS4, GS5, GS6, GS7, GS8, GS9, GS10, GS11, TT_eq, TTl, Nat.reduceAdd, Nat.reduceMul, Nat.reduceSub, Nat.reduceDiv, Nat.reduceMod, Nat.reducePow, Nat.reduceEqDiff, ↓reduceIte, reduceCtorEq, true_and, and_true, and_self, false_and, and_false, Int.reduceToNat, Int.reduceAdd, Int.reduceSub, Int.reduceMul, cond_true, cond_false, List.toList_toArray, Option.map_some, Option.map_none, Option.some.injEq, List.cons_append, List.nil_append, List.length_cons, List.length_nil, List.getD_cons_zero, List.getD_cons_succ]
  refine ⟨fok107, slPrefix_cps s g hs hg _ _ (.inl ⟨_, rfl, hold_ops okT (rs := [.tmp 4]) rfl ?_⟩)⟩
  simp (config := { maxSteps := 1000000 }) (disch := first | omega | (simp only [sizeAlloc, sizeDrew, sizeSet, sizePut] <;> omega) | fail) only [GS1, GS2, GS3, GS4, GS5, GS6, GS7, GS8, GS9, GS10, GS11, TT_eq, TTl, Nat.reduceAdd, Nat.reduceMul, Nat.reduceSub, Nat.reduceDiv, Nat.reduceMod, Nat.reducePow, Nat.reduceEqDiff, ↓reduceIte, reduceCtorEq, true_and, and_true, and_self, false_and, and_false, Int.reduceToNat, Int.reduceAdd, Int.reduceSub, Int.reduceMul, cond_true, cond_false, List.toList_toArray, Option.map_some, Option.map_none, Option.some.injEq, List.cons_append, List.nil_append, List.length_cons, List.length_nil, List.getD_cons_zero, List.getD_cons_succ]
  exact hR
theorem preS_len {g s : List UInt8} (h : preS g s = true) : g.length ≤ s.length := by
  unfold preS at h
  have := congrArg List.length (of_decide_eq_true h)
  rw [List.length_take] at this
  omega
set_option maxHeartbeats 2000000 in
theorem sNext_cps (rp : Nat) (s g : List UInt8) (hs : s.length ≤ maxLen) (hg : g.length ≤ maxLen) (w : World) (R : Ending → World → Prop) (h : Rdr w rp s) (h1 : preS g s = true → ∀ w', Rdr w' rp (s.drop g.length) → Mod [rp] w w' → R (.returned (.bool true)) w') (h0 : preS g s = false → R (.returned (.bool false)) w) :
    Calls Try.prog 56 #[.pointer (some ⟨rp, 0, none⟩), .string ⟨g.toArray⟩] w R := by
  have c0 := cellOf (o := 0) h
  refine calls_go 4000 okT Try.func56 rfl (rs := [.tmp 4]) rfl Try.ntmps56 (args := [.pointer (some ⟨rp, 0, none⟩), .string ⟨g.toArray⟩]) ?_
  simp (config := { maxSteps := 1000000 }) (disch := first | omega | (simp only [sizeAlloc, sizeDrew, sizeSet, sizePut] <;> omega) | fail) only [GS1, GS2, GS3, GS4, GS5, GS6, GS7, GS8, GS9, GS10, GS11, TT_eq, TTl, Nat.reduceAdd, Nat.reduceMul, Nat.reduceSub, Nat.reduceDiv, Nat.reduceMod, Nat.reducePow, Nat.reduceEqDiff, ↓reduceIte, reduceCtorEq, true_and, and_true, and_self, false_and, and_false, Int.reduceToNat, Int.reduceAdd, Int.reduceSub, Int.reduceMul, cond_true, cond_false, List.toList_toArray, Option.map_some, Option.map_none, Option.some.injEq, List.cons_append, List.nil_append, List.length_cons, List.length_nil, List.getD_cons_zero, List.getD_cons_succ, c0]
  refine ⟨fok91, sPrefix_cps s g hs hg _ _ (.inl ⟨_, rfl, hold_ops okT (rs := [.tmp 4]) rfl ?_⟩)⟩
  by_cases hp : preS g s = true
  · have hl := preS_len hp
    rw [hp]
    simp (config := { maxSteps := 1000000 }) (disch := first | omega | (simp only [sizeAlloc, sizeDrew, sizeSet, sizePut] <;> omega) | fail) only [GS1, GS2, GS3, GS4, GS5, GS6, GS7, GS8, GS9, GS10, GS11, TT_eq, TTl, Nat.reduceAdd, Nat.reduceMul, Nat.reduceSub, Nat.reduceDiv, Nat.reduceMod, Nat.reducePow, Nat.reduceEqDiff, ↓reduceIte, reduceCtorEq, true_and, and_true, and_self, false_and, and_false, Int.reduceToNat, Int.reduceAdd, Int.reduceSub, Int.reduceMul, cond_true, cond_false, List.toList_toArray, Option.map_some, Option.map_none, Option.some.injEq, List.cons_append, List.nil_append, List.length_cons, List.length_nil, List.getD_cons_zero, List.getD_cons_succ]
    refine ⟨fok57, sCut_cps rp s g.length hs hg _ _ h (fun _ w' hr hM => .inl ⟨_, rfl, hold_ops okT (rs := [.tmp 4]) rfl ?_⟩) (fun h => absurd h (by omega))⟩
    simp (config := { maxSteps := 1000000 }) (disch := first | omega | (simp only [sizeAlloc, sizeDrew, sizeSet, sizePut] <;> omega) | fail) only [GS1, GS2, GS3, GS4, GS5, GS6, GS7, GS8, GS9, GS10, GS11, TT_eq, TTl, Nat.reduceAdd, Nat.reduceMul, Nat.reduceSub, Nat.reduceDiv, Nat.reduceMod, Nat.reducePow, Nat.reduceEqDiff, ↓reduceIte, reduceCtorEq, true_and, and_true, and_self, false_and, and_false, Int.reduceToNat, Int.reduceAdd, Int.reduceSub, Int.reduceMul, cond_true, cond_false, List.toList_toArray, Option.map_some, Option.map_none, Option.some.injEq, List.cons_append, List.nil_append, List.length_cons, List.length_nil, List.getD_cons_zero, List.getD_cons_succ]
    exact h1 hp _ hr hM
  · rw [Bool.not_eq_true] at hp
    rw [hp]
    simp (config := { maxSteps := 1000000 }) (disch := first | omega | (simp only [sizeAlloc, sizeDrew, sizeSet, sizePut] <;> omega) | fail) only [GS1, GS2, GS3, GS4, GS5, GS6, GS7, GS8, GS9, GS10, GS11, TT_eq, TTl, Nat.reduceAdd, Nat.reduceMul, Nat.reduceSub, Nat.reduceDiv, Nat.reduceMod, Nat.reducePow, Nat.reduceEqDiff, ↓reduceIte, reduceCtorEq, true_and, and_true, and_self, false_and, and_false, Int.reduceToNat, Int.reduceAdd, Int.reduceSub, Int.reduceMul, cond_true, cond_false, List.toList_toArray, Option.map_some, Option.map_none, Option.some.injEq, List.cons_append, List.nil_append, List.length_cons, List.length_nil, List.getD_cons_zero, List.getD_cons_succ]
    exact h0 hp
end Go.Proofs.Ytpcmebcfgmoipaa

set_option linter.unusedSimpArgs false
set_option linter.unusedVariables false
namespace Go.Proofs.Ytpcmebcfgmoipaa
open Go Go.Wk Go.RowKit
attribute [local irreducible] go Hold
open Go.Lib
theorem dec_asc {c : UInt8} {r : List UInt8} (h : c.toNat < 128) : decodeL (c :: r) = (c.toNat, 1) := by
  unfold decodeL
  exact decode_ascii (⟨(c :: r).toArray⟩ : ByteArray) 0 (by show 0 < (c :: r).toArray.size; simp) h
theorem dec_high {c : UInt8} {r : List UInt8} (h : 128 ≤ c.toNat) : 128 ≤ (decodeL (c :: r)).1 := by
  unfold decodeL
  exact (decode_high (⟨(c :: r).toArray⟩ : ByteArray) 0 (by show 0 < (c :: r).toArray.size; simp) h).1
/-- Of a kind of bytes below 128. -/
theorem whl_asc (so : Nat → Bool) (h : ∀ r, so r = true → r < 128) : ∀ (f : Nat) (l : List UInt8), l.length ≤ f → whlF so f l = (l.takeWhile fun c => so c.toNat).length
  | 0, l, hl => by
    have : l = [] := List.eq_nil_of_length_eq_zero (by omega)
    subst this; rfl
  | f + 1, [], _ => rfl
  | f + 1, c :: r, hl => by
    unfold whlF
    rw [if_neg (by simp)]
    by_cases hc : c.toNat < 128
    · rw [dec_asc hc]
      simp only [List.drop_succ_cons, List.drop_zero]
      by_cases hs : so c.toNat = true
      · rw [if_pos hs, whl_asc so h f r (by simp at hl; omega), List.takeWhile_cons_of_pos (p := fun c : UInt8 => so c.toNat) hs, List.length_cons]
        omega
      · rw [if_neg hs, List.takeWhile_cons_of_neg (p := fun c : UInt8 => so c.toNat) hs]; rfl
    · have h1 := dec_high (c := c) (r := r) (by omega)
      rw [if_neg (fun e => by have := h _ e; omega), List.takeWhile_cons_of_neg (p := fun c : UInt8 => so c.toNat) (fun e => by have := h _ e; omega)]
      rfl
theorem hx_asc (r : Nat) (h : hxB r = true) : r < 128 := by unfold hxB at h; have := of_decide_eq_true h; omega
theorem nm_asc (r : Nat) (h : nmB r = true) : r < 128 := by unfold nmB at h; have := of_decide_eq_true h; omega
theorem whl_hx (s : List UInt8) : whlS hxB s = (s.takeWhile fun c => hxB c.toNat).length := whl_asc hxB hx_asc _ _ (Nat.le_refl _)
theorem whl_nm (s : List UInt8) : whlS nmB s = (s.takeWhile fun c => nmB c.toNat).length := whl_asc nmB nm_asc _ _ (Nat.le_refl _)
theorem take_tw {α : Type} (p : α → Bool) : ∀ s : List α, s.take (s.takeWhile p).length = s.takeWhile p
  | [] => rfl
  | c :: r => by
    by_cases h : p c = true
    · rw [List.takeWhile_cons_of_pos h, List.length_cons, List.take_succ_cons, take_tw p r]
    · rw [List.takeWhile_cons_of_neg h]; rfl
/-- A digit's value. -/
def hexv (c : UInt8) : Nat := (Lib.indexByte HX c).toNat
theorem hexv_ix (c : UInt8) (h : hxB c.toNat = true) : Lib.indexByte HX c = (hexv c : Nat) ∧ hexv c < 16 := by
  have key : ∀ x : Fin 256, hxB (UInt8.ofNat x.val).toNat = true → Lib.indexByte HX (UInt8.ofNat x.val) = (hexv (UInt8.ofNat x.val) : Nat) ∧ hexv (UInt8.ofNat x.val) < 16 := by decide +kernel
  have := key ⟨c.toNat, c.toNat_lt⟩
  simp only [UInt8.ofNat_toNat] at this
  exact this h
/-- The bytes that digits say. -/
def hexP : List UInt8 → List UInt8
  | a :: b :: r => UInt8.ofNat (hexv a * 16 + hexv b) :: hexP r
  | _ => []
theorem hexP_len : ∀ (m : Nat) (l : List UInt8), l.length = 2 * m → (hexP l).length = m
  | 0, l, h => by
    have : l = [] := List.eq_nil_of_length_eq_zero (by omega)
    subst this; rfl
  | m + 1, [], h => by simp at h
  | m + 1, [a], h => by simp at h; omega
  | m + 1, a :: b :: r, h => by
    simp only [hexP, List.length_cons] at h ⊢
    rw [hexP_len m r (by omega)]
theorem hexP_at : ∀ (m : Nat) (l : List UInt8) (k : Nat), l.length = 2 * m → (h : k < m) → (h1 : 2 * k + 1 < l.length) → (hexP l)[k]? = some (UInt8.ofNat (hexv l[2 * k] * 16 + hexv l[2 * k + 1]))
  | 0, l, k, _, h, _ => by omega
  | m + 1, [], k, hl, h, _ => by simp at hl
  | m + 1, [a], k, hl, h, _ => by simp at hl; omega
  | m + 1, a :: b :: r, 0, hl, h, h1 => rfl
  | m + 1, a :: b :: r, k + 1, hl, h, h1 => by
    simp only [hexP, List.length_cons] at hl h1 ⊢
    have := hexP_at m r k (by omega) (by omega) (by omega)
    simp only [List.getElem?_cons_succ]
    rw [this]
    rfl
end Go.Proofs.Ytpcmebcfgmoipaa

set_option linter.unusedSimpArgs false
set_option linter.unusedVariables false
namespace Go.Proofs.Ytpcmebcfgmoipaa
open Go Go.Wk Go.RowKit
attribute [local irreducible] go Hold
open Go.Lib
def u8C (b : UInt8) : Value := .int .u8 b.toNat
/-- The digits that a line begins with. -/
def hexS (s : List UInt8) : List UInt8 := s.takeWhile fun c => hxB c.toNat
theorem all_tw {α : Type} (p : α → Bool) : ∀ (s : List α) (c : α), c ∈ s.takeWhile p → p c = true
  | [], c, h => by simp at h
  | a :: r, c, h => by
    by_cases ha : p a = true
    · rw [List.takeWhile_cons_of_pos ha, List.mem_cons] at h
      rcases h with rfl | h
      · exact ha
      · exact all_tw p r c h
    · rw [List.takeWhile_cons_of_neg ha] at h; simp at h
/-- What the first k of m bytes are set to. -/
def setK (T : List UInt8) (m k : Nat) : List UInt8 := T.take k ++ List.replicate (m - k) 0
theorem setK_len {T : List UInt8} {m k : Nat} (hT : T.length = m) (hk : k ≤ m) : (setK T m k).length = m := by
  unfold setK
  rw [List.length_append, List.length_take, List.length_replicate]
  omega
theorem setK_succ {T : List UInt8} {m k : Nat} (hT : T.length = m) (hk : k < m) {b : UInt8} (hb : T[k]? = some b) : (setK T m k).set k b = setK T m (k + 1) := by
  unfold setK
  obtain ⟨j, hj⟩ : ∃ j, m - k = j + 1 := ⟨m - k - 1, by omega⟩
  have hb2 : T[k]'(by omega) = b := by rw [List.getElem?_eq_getElem (by omega)] at hb; exact Option.some.inj hb
  rw [hj, show m - (k + 1) = j by omega, List.replicate_succ, List.take_succ_eq_append_getElem (by omega), hb2, List.set_append_right _ _ (by rw [List.length_take]; omega)]
  rw [List.length_take, show k - min k T.length = 0 by omega]
  simp
theorem setK_all {T : List UInt8} {m : Nat} (hT : T.length = m) : setK T m m = T := by
  unfold setK
  rw [Nat.sub_self, List.take_of_length_le (by omega)]
  simp
theorem made8 (z : Value) (hz : z.cells = #[.int .u8 0]) (n : Nat) : madeCells z.cells (n * 1) = ((List.replicate n (0 : UInt8)).map u8C).toArray := by
  rw [hz]
  apply Array.ext'
  rw [List.map_replicate]
  apply List.ext_getElem
  · simp [madeCells]
  · intro i h1 h2
    simp only [madeCells, List.getElem_replicate]
    simp [u8C, Nat.mod_one]
set_option maxRecDepth 20000 in
set_option maxHeartbeats 8000000 in
theorem sBytes_cps (rp : Nat) (s : List UInt8) (hs : s.length ≤ 100000) (w : World) (R : Ending → World → Prop) (h : Rdr w rp s)
    (h1 : (hexS s).length % 2 = 0 → plainS (hexP (hexS s)) = false → ∀ w', Rdr w' rp (s.drop (hexS s).length) → Mod [rp] w w' → R (.returned (.string ⟨(hexP (hexS s)).toArray⟩)) w')
    (h0 : ¬((hexS s).length % 2 = 0 ∧ plainS (hexP (hexS s)) = false) → ∀ w', Mod [rp] w w' → R (.panicked noneV) w') : Calls Try.prog 60 #[.pointer (some ⟨rp, 0, none⟩)] w R := by
  have c0 := cellOf (o := 0) h
  have hs' : s.length ≤ maxLen := by unfold maxLen; omega
  have hrl := ltOf h
  refine calls_go 4000 okT Try.func60 rfl (rs := [.tmp 2]) rfl Try.ntmps60 (args := [.pointer (some ⟨rp, 0, none⟩)]) ?_
  simp (config := { maxSteps := 1000000 }) (disch := first | omega | (simp only [sizeAlloc, sizeDrew, sizeSet, sizePut] <;> omega) | fail) only [GS1, GS2, GS3, GS4, GS5, GS6, GS7, GS8, GS9, GS10, GS11, TT_eq, TTl, Nat.reduceAdd, Nat.reduceMul, Nat.reduceSub, Nat.reduceDiv, Nat.reduceMod, Nat.reducePow, Nat.reduceEqDiff, ↓reduceIte, reduceCtorEq, true_and, and_true, and_self, false_and, and_false, Int.reduceToNat, Int.reduceAdd, Int.reduceSub, Int.reduceMul, cond_true, cond_false, List.toList_toArray, Option.map_some, Option.map_none, Option.some.injEq, List.cons_append, List.nil_append, List.length_cons, List.length_nil, List.getD_cons_zero, List.getD_cons_succ, c0]
  refine ⟨fok45, while_cps 92 fok92 hxB (fun r w R h1 h2 => sHexC_cps r h1 w R h2) s hs' _ _ fun w1 hM1 => .inl ⟨_, rfl, hold_ops okT (rs := [.tmp 2]) rfl ?_⟩⟩
  have hle := whlS_le hxB s
  rw [whl_hx] at hle ⊢
  have htw := take_tw (fun c : UInt8 => hxB c.toNat) s
  rw [show (s.takeWhile fun c => hxB c.toNat) = hexS s from rfl] at hle htw ⊢
  have hall : ∀ c ∈ hexS s, hxB c.toNat = true := fun c hc => all_tw _ s c hc
  have hln : (hexS s).length ≤ 100000 := by omega
  have hr1 : Rdr w1 rp s := hM1.get h (by simp)
  simp (config := { maxSteps := 1000000 }) (disch := first | omega | (simp only [sizeAlloc, sizeDrew, sizeSet, sizePut] <;> omega) | fail) only [GS1, GS2, GS3, GS4, GS5, GS6, GS7, GS8, GS9, GS10, GS11, TT_eq, TTl, Nat.reduceAdd, Nat.reduceMul, Nat.reduceSub, Nat.reduceDiv, Nat.reduceMod, Nat.reducePow, Nat.reduceEqDiff, ↓reduceIte, reduceCtorEq, true_and, and_true, and_self, false_and, and_false, Int.reduceToNat, Int.reduceAdd, Int.reduceSub, Int.reduceMul, cond_true, cond_false, List.toList_toArray, Option.map_some, Option.map_none, Option.some.injEq, List.cons_append, List.nil_append, List.length_cons, List.length_nil, List.getD_cons_zero, List.getD_cons_succ]
  refine ⟨fok57, sCut_cps rp s _ hs' (by omega) _ _ hr1 (fun _ w2 hr2 hM2 => .inl ⟨_, rfl, hold_ops okT (rs := [.tmp 2]) rfl ?_⟩) (fun h => absurd h (by omega))⟩
  have hM02 := (hM1.mono (by simp)).trans hM2 (fun x hx => .inl hx)
  rw [htw]
  generalize hexS s = l at *
  clear htw hr1 hM1 hM2 c0
  have t1 : ((l.length : Nat) : Int).tmod 2 = ((l.length % 2 : Nat) : Int) := by rw [Int.tmod_eq_emod_of_nonneg (by omega)]; omega
  have t2 : ((l.length : Nat) : Int).tdiv 2 = ((l.length / 2 : Nat) : Int) := by rw [Int.tdiv_eq_ediv_of_nonneg (by omega)]; omega
  simp (config := { maxSteps := 1000000 }) (disch := first | omega | (simp only [sizeAlloc, sizeDrew, sizeSet, sizePut] <;> omega) | fail) only [GS1, GS2, GS3, GS4, GS5, GS6, GS7, GS8, GS9, GS10, GS11, TT_eq, TTl, Nat.reduceAdd, Nat.reduceMul, Nat.reduceSub, Nat.reduceDiv, Nat.reduceMod, Nat.reducePow, Nat.reduceEqDiff, ↓reduceIte, reduceCtorEq, true_and, and_true, and_self, false_and, and_false, Int.reduceToNat, Int.reduceAdd, Int.reduceSub, Int.reduceMul, cond_true, cond_false, List.toList_toArray, Option.map_some, Option.map_none, Option.some.injEq, List.cons_append, List.nil_append, List.length_cons, List.length_nil, List.getD_cons_zero, List.getD_cons_succ, t1]
  by_cases he : l.length % 2 = 0
  · rw [show decide (((l.length % 2 : Nat) : Int) = 0) = true from decide_eq_true (by omega)]
    refine ⟨fok33, sMust_cps true _ _ (fun _ => .inl ⟨_, rfl, hold_ops okT (rs := [.tmp 2]) rfl ?_⟩) (fun h => absurd h (by simp))⟩
    obtain ⟨m, hm⟩ : ∃ m, l.length = 2 * m := ⟨l.length / 2, by omega⟩
    have hm2 : l.length / 2 = m := by omega
    rw [hm2] at t2
    simp (config := { maxSteps := 1000000 }) (disch := first | omega | (simp only [sizeAlloc, sizeDrew, sizeSet, sizePut] <;> omega) | fail) only [GS1, GS2, GS3, GS4, GS5, GS6, GS7, GS8, GS9, GS10, GS11, TT_eq, TTl, Nat.reduceAdd, Nat.reduceMul, Nat.reduceSub, Nat.reduceDiv, Nat.reduceMod, Nat.reducePow, Nat.reduceEqDiff, ↓reduceIte, reduceCtorEq, true_and, and_true, and_self, false_and, and_false, Int.reduceToNat, Int.reduceAdd, Int.reduceSub, Int.reduceMul, cond_true, cond_false, List.toList_toArray, Option.map_some, Option.map_none, Option.some.injEq, List.cons_append, List.nil_append, List.length_cons, List.length_nil, List.getD_cons_zero, List.getD_cons_succ, t2]
    refine hold_makeSlice okT rfl rfl rfl rfl rfl (Nat.le_refl _) (by simp only; omega) (by omega) fun z hz => hold_ops okT (rs := [.tmp 2]) rfl ?_
    have hA := heapNew (w := w2) (o := .cells (madeCells z.cells (m * 1)) 5)
    have hM3 := hM02.alloc (.cells (madeCells z.cells (m * 1)) 5)
    have hM23 := (Mod.refl [] w2).alloc (.cells (madeCells z.cells (m * 1)) 5)
    have hr3 : Rdr _ rp _ := hM23.get hr2 (by simp)
    have hz3 : w2.heap.size < (w2.alloc (.cells (madeCells z.cells (m * 1)) 5)).heap.size := by rw [show (w2.alloc (.cells (madeCells z.cells (m * 1)) 5)).heap.size = w2.heap.size + 1 from Array.size_push _]; omega
    have hwA : w.heap.size ≤ w2.heap.size := hM02.size
    have hTl := hexP_len m l hm
    have hat := hexP_at m l
    generalize w2.alloc (.cells (madeCells z.cells (m * 1)) 5) = w3 at *
    rw [made8 z hz, show List.replicate m (0 : UInt8) = setK (hexP l) m 0 by unfold setK; simp] at hA
    generalize w2.heap.size = A at *
    generalize hexP l = T at *
    simp (config := { maxSteps := 1000000 }) (disch := first | omega | (simp only [sizeAlloc, sizeDrew, sizeSet, sizePut] <;> omega) | fail) only [GS1, GS2, GS3, GS4, GS5, GS6, GS7, GS8, GS9, GS10, GS11, TT_eq, TTl, Nat.reduceAdd, Nat.reduceMul, Nat.reduceSub, Nat.reduceDiv, Nat.reduceMod, Nat.reducePow, Nat.reduceEqDiff, ↓reduceIte, reduceCtorEq, true_and, and_true, and_self, false_and, and_false, Int.reduceToNat, Int.reduceAdd, Int.reduceSub, Int.reduceMul, cond_true, cond_false, List.toList_toArray, Option.map_some, Option.map_none, Option.some.injEq, List.cons_append, List.nil_append, List.length_cons, List.length_nil, List.getD_cons_zero, List.getD_cons_succ]
    refine hold_loop okT (rs := [.tmp 2]) rfl [24] [5, 25, 26, 27, 28, 29, 30, 31, 32, 33, 34, 35, 36, 37, 38, 39, 40, 41, 42, 43, 44] (fun vs w' => ∃ k : Nat, k ≤ m ∧ vs = [.int .i64 k] ∧ w'.heap[A]? = some (.cells ((setK T m k).map u8C).toArray 5 (0, 0)) ∧ Mod [A] w3 w') (fun vs _ => match vs with | [.int _ i] => m - i.toNat | _ => 0) (by kernel_rfl) ⟨0, by omega, rfl, hA, Mod.refl _ _⟩ ?_
    rintro vs w4 J ⟨k, hk, rfl, hA4, hM4⟩
    by_cases hlt : k < m
    · have hTk := hat k hm hlt (by omega)
      have q1 := hexv_ix _ (hall _ (List.getElem_mem (show 2 * k < l.length by omega)))
      have q2 := hexv_ix _ (hall _ (List.getElem_mem (show 2 * k + 1 < l.length by omega)))
      have hlk1 : 2 * k < l.length := by omega
      have hlk2 : 2 * k + 1 < l.length := by omega
      have y1 : l.getD (2 * (k : Int)).toNat 0 = l[2 * k] := by rw [show (2 * (k : Int)).toNat = 2 * k by omega, List.getD_eq_getElem?_getD, List.getElem?_eq_getElem hlk1]; rfl
      have y2 : l.getD (2 * (k : Int) + 1).toNat 0 = l[2 * k + 1] := by rw [show (2 * (k : Int) + 1).toNat = 2 * k + 1 by omega, List.getD_eq_getElem?_getD, List.getElem?_eq_getElem hlk2]; rfl
      simp (config := { maxSteps := 1000000 }) (disch := first | omega | (simp only [sizeAlloc, sizeDrew, sizeSet, sizePut] <;> omega) | fail) only [GS1, GS2, GS3, GS4, GS5, GS6, GS7, GS8, GS9, GS10, GS11, TT_eq, TTl, Nat.reduceAdd, Nat.reduceMul, Nat.reduceSub, Nat.reduceDiv, Nat.reduceMod, Nat.reducePow, Nat.reduceEqDiff, ↓reduceIte, reduceCtorEq, true_and, and_true, and_self, false_and, and_false, Int.reduceToNat, Int.reduceAdd, Int.reduceSub, Int.reduceMul, cond_true, cond_false, List.toList_toArray, Option.map_some, Option.map_none, Option.some.injEq, List.cons_append, List.nil_append, List.length_cons, List.length_nil, List.getD_cons_zero, List.getD_cons_succ]
      refine hold_draw okT (rs := [.tmp 2]) rfl [0, 0, 0, 0, 8, 28, 60, 124, 0, 0, 512, 1536, 3840, 8060, 16380, 32764, 65535, 131071] [0, 1, 2, 3, 4, 5, 8, 9, 10, 11, 12, 6, 7, 13, 14, 15, 16, 17] (by kernel_rfl) (by kernel_rfl) ?_
      have hA5 : (w4.drewN 1).heap[A]? = some (.cells ((setK T m k).map u8C).toArray 5 (0, 0)) := hA4
      have hM5 := hM4.drewN 1
      generalize w4.drewN 1 = w5 at hA5 hM5 ⊢
      have ff := frozenOf (o := k) hA5
      simp (config := { maxSteps := 1000000 }) (disch := first | omega | (simp only [sizeAlloc, sizeDrew, sizeSet, sizePut] <;> omega) | fail) only [GS1, GS2, GS3, GS4, GS5, GS6, GS7, GS8, GS9, GS10, GS11, TT_eq, TTl, Nat.reduceAdd, Nat.reduceMul, Nat.reduceSub, Nat.reduceDiv, Nat.reduceMod, Nat.reducePow, Nat.reduceEqDiff, ↓reduceIte, reduceCtorEq, true_and, and_true, and_self, false_and, and_false, Int.reduceToNat, Int.reduceAdd, Int.reduceSub, Int.reduceMul, cond_true, cond_false, List.toList_toArray, Option.map_some, Option.map_none, Option.some.injEq, List.cons_append, List.nil_append, List.length_cons, List.length_nil, List.getD_cons_zero, List.getD_cons_succ]
      refine ⟨fok52, sIndexByte_cps HX _ _ _ (.inl ⟨_, rfl, hold_dops okT (rs := [.tmp 2]) rfl ?_⟩)⟩
      rw [y1, q1.1]
      obtain ⟨-, q1⟩ := q1
      generalize hexv l[2 * k] = va at *
      simp (config := { maxSteps := 1000000 }) (disch := first | omega | (simp only [sizeAlloc, sizeDrew, sizeSet, sizePut] <;> omega) | fail) only [GS1, GS2, GS3, GS4, GS5, GS6, GS7, GS8, GS9, GS10, GS11, TT_eq, TTl, Nat.reduceAdd, Nat.reduceMul, Nat.reduceSub, Nat.reduceDiv, Nat.reduceMod, Nat.reducePow, Nat.reduceEqDiff, ↓reduceIte, reduceCtorEq, true_and, and_true, and_self, false_and, and_false, Int.reduceToNat, Int.reduceAdd, Int.reduceSub, Int.reduceMul, cond_true, cond_false, List.toList_toArray, Option.map_some, Option.map_none, Option.some.injEq, List.cons_append, List.nil_append, List.length_cons, List.length_nil, List.getD_cons_zero, List.getD_cons_succ, y2]
      refine ⟨fok52, sIndexByte_cps HX _ _ _ (.inl ⟨_, rfl, hold_dops okT (rs := [.tmp 2]) rfl ?_⟩)⟩
      rw [q2.1]
      obtain ⟨-, q2⟩ := q2
      generalize hexv l[2 * k + 1] = vb at *
      have es : IntKind.i64.wrap ((va : Int) * 2 ^ capN IntKind.i64 4) = ((va * 16 : Nat) : Int) := by
        rw [show capN IntKind.i64 4 = 4 from rfl, show ((va : Int) * 2 ^ 4) = ((va * 16 : Nat) : Int) by omega, wr_i64 (by omega) (by omega)]
      have e6 : ((va * 16 : Nat) : Int) + (vb : Nat) = ((va * 16 + vb : Nat) : Int) := by omega
      have hsl := setK_len hTl hk
      have cc : w5.cell? ⟨A, k, none⟩ = some (.int .u8 ((setK T m k)[k]'(by omega)).toNat) := by
        rw [cellOf hA5, List.getElem?_toArray, List.getElem?_map, List.getElem?_eq_getElem (by omega)]; rfl
      have hnew : ((setK T m k).map u8C).toArray.setIfInBounds k (.int .u8 ((va * 16 + vb : Nat) : Int)) = ((setK T m (k + 1)).map u8C).toArray := by
        rw [← setK_succ hTl hlt hTk, List.map_set, List.setIfInBounds_toArray]
        congr 2
        unfold u8C
        rw [UInt8.toNat_ofNat_of_lt' (show va * 16 + vb < 256 by omega)]
      simp (config := { maxSteps := 1000000 }) (disch := first | omega | (simp only [sizeAlloc, sizeDrew, sizeSet, sizePut] <;> omega) | fail) only [GS1, GS2, GS3, GS4, GS5, GS6, GS7, GS8, GS9, GS10, GS11, TT_eq, TTl, Nat.reduceAdd, Nat.reduceMul, Nat.reduceSub, Nat.reduceDiv, Nat.reduceMod, Nat.reducePow, Nat.reduceEqDiff, ↓reduceIte, reduceCtorEq, true_and, and_true, and_self, false_and, and_false, Int.reduceToNat, Int.reduceAdd, Int.reduceSub, Int.reduceMul, cond_true, cond_false, List.toList_toArray, Option.map_some, Option.map_none, Option.some.injEq, List.cons_append, List.nil_append, List.length_cons, List.length_nil, List.getD_cons_zero, List.getD_cons_succ, es, e6, ff, cc]
      refine ⟨⟨k + 1, by omega, rfl, ?_, hM5.set (.inl (by simp)) _⟩, by omega⟩
      rw [heapSet hA5, hnew]
    · have e : k = m := by omega
      subst e
      rw [setK_all hTl] at hA4
      have ld : loadL w4 ⟨A, 0, none⟩ 0 k = some (T.map u8C) := by
        rw [loadL_heap hA4 k 0 0 (by simp; omega)]
        subst hTl
        simp only [Nat.zero_add, List.drop_zero]
        rw [List.take_of_length_le (by rw [List.length_map]; omega)]
      have hby : bytesL (T.map u8C) = some T := bytesL_map T
      simp (config := { maxSteps := 1000000 }) (disch := first | omega | (simp only [sizeAlloc, sizeDrew, sizeSet, sizePut] <;> omega) | fail) only [GS1, GS2, GS3, GS4, GS5, GS6, GS7, GS8, GS9, GS10, GS11, TT_eq, TTl, Nat.reduceAdd, Nat.reduceMul, Nat.reduceSub, Nat.reduceDiv, Nat.reduceMod, Nat.reducePow, Nat.reduceEqDiff, ↓reduceIte, reduceCtorEq, true_and, and_true, and_self, false_and, and_false, Int.reduceToNat, Int.reduceAdd, Int.reduceSub, Int.reduceMul, cond_true, cond_false, List.toList_toArray, Option.map_some, Option.map_none, Option.some.injEq, List.cons_append, List.nil_append, List.length_cons, List.length_nil, List.getD_cons_zero, List.getD_cons_succ, ld, hby]
      have hrp : rp ≠ A := by omega
      have hr4 : Rdr w4 rp (s.drop l.length) := hM4.get hr3 (by simpa using hrp)
      have hM04 : Mod [rp] w w4 := hM3.trans hM4 (fun x hx => .inr (by simp at hx; omega))
      refine ⟨fok20, sPlainS_cps T (by unfold maxLen; omega) _ _ fun w5 hM5 => .inl ⟨_, rfl, hold_ops okT (rs := [.tmp 2]) rfl ?_⟩⟩
      have hr5 : Rdr w5 rp (s.drop l.length) := hM5.get hr4 (by simp)
      have hM05 : Mod [rp] w w5 := hM04.trans hM5 (by simp)
      have ld : loadL w5 ⟨A, 0, none⟩ 0 k = some (T.map u8C) := by
        rw [loadL_heap (hM5.get hA4 (by simp)) k 0 0 (by simp; omega)]
        subst hTl
        simp only [Nat.zero_add, List.drop_zero]
        rw [List.take_of_length_le (by rw [List.length_map]; omega)]
      cases hpl : plainS T
      · simp (config := { maxSteps := 1000000 }) (disch := first | omega | (simp only [sizeAlloc, sizeDrew, sizeSet, sizePut] <;> omega) | fail) only [GS1, GS2, GS3, GS4, GS5, GS6, GS7, GS8, GS9, GS10, GS11, TT_eq, TTl, Nat.reduceAdd, Nat.reduceMul, Nat.reduceSub, Nat.reduceDiv, Nat.reduceMod, Nat.reducePow, Nat.reduceEqDiff, ↓reduceIte, reduceCtorEq, true_and, and_true, and_self, false_and, and_false, Int.reduceToNat, Int.reduceAdd, Int.reduceSub, Int.reduceMul, cond_true, cond_false, List.toList_toArray, Option.map_some, Option.map_none, Option.some.injEq, List.cons_append, List.nil_append, List.length_cons, List.length_nil, List.getD_cons_zero, List.getD_cons_succ]
        refine ⟨fok33, sMust_cps true _ _ (fun _ => .inl ⟨_, rfl, hold_ops okT (rs := [.tmp 2]) rfl ?_⟩) (fun h => absurd h (by simp))⟩
        simp (config := { maxSteps := 1000000 }) (disch := first | omega | (simp only [sizeAlloc, sizeDrew, sizeSet, sizePut] <;> omega) | fail) only [GS1, GS2, GS3, GS4, GS5, GS6, GS7, GS8, GS9, GS10, GS11, TT_eq, TTl, Nat.reduceAdd, Nat.reduceMul, Nat.reduceSub, Nat.reduceDiv, Nat.reduceMod, Nat.reducePow, Nat.reduceEqDiff, ↓reduceIte, reduceCtorEq, true_and, and_true, and_self, false_and, and_false, Int.reduceToNat, Int.reduceAdd, Int.reduceSub, Int.reduceMul, cond_true, cond_false, List.toList_toArray, Option.map_some, Option.map_none, Option.some.injEq, List.cons_append, List.nil_append, List.length_cons, List.length_nil, List.getD_cons_zero, List.getD_cons_succ, ld, hby]
        exact h1 he hpl _ hr5 hM05
      · simp (config := { maxSteps := 1000000 }) (disch := first | omega | (simp only [sizeAlloc, sizeDrew, sizeSet, sizePut] <;> omega) | fail) only [GS1, GS2, GS3, GS4, GS5, GS6, GS7, GS8, GS9, GS10, GS11, TT_eq, TTl, Nat.reduceAdd, Nat.reduceMul, Nat.reduceSub, Nat.reduceDiv, Nat.reduceMod, Nat.reducePow, Nat.reduceEqDiff, ↓reduceIte, reduceCtorEq, true_and, and_true, and_self, false_and, and_false, Int.reduceToNat, Int.reduceAdd, Int.reduceSub, Int.reduceMul, cond_true, cond_false, List.toList_toArray, Option.map_some, Option.map_none, Option.some.injEq, List.cons_append, List.nil_append, List.length_cons, List.length_nil, List.getD_cons_zero, List.getD_cons_succ]
        refine ⟨fok33, sMust_cps false _ _ (fun h => absurd h (by simp)) (fun _ => .inr ⟨_, rfl, hold_ex okT (rs := [.tmp 2]) rfl ?_⟩)⟩
        simp (config := { maxSteps := 1000000 }) (disch := first | omega | (simp only [sizeAlloc, sizeDrew, sizeSet, sizePut] <;> omega) | fail) only [GS1, GS2, GS3, GS4, GS5, GS6, GS7, GS8, GS9, GS10, GS11, TT_eq, TTl, Nat.reduceAdd, Nat.reduceMul, Nat.reduceSub, Nat.reduceDiv, Nat.reduceMod, Nat.reducePow, Nat.reduceEqDiff, ↓reduceIte, reduceCtorEq, true_and, and_true, and_self, false_and, and_false, Int.reduceToNat, Int.reduceAdd, Int.reduceSub, Int.reduceMul, cond_true, cond_false, List.toList_toArray, Option.map_some, Option.map_none, Option.some.injEq, List.cons_append, List.nil_append, List.length_cons, List.length_nil, List.getD_cons_zero, List.getD_cons_succ]
        exact h0 (by simp [hpl]) _ hM05
  · rw [show decide (((l.length % 2 : Nat) : Int) = 0) = false from decide_eq_false (by omega)]
    refine ⟨fok33, sMust_cps false _ _ (fun h => absurd h (by simp)) (fun _ => .inr ⟨_, rfl, hold_ex okT (rs := [.tmp 2]) rfl ?_⟩)⟩
    simp (config := { maxSteps := 1000000 }) (disch := first | omega | (simp only [sizeAlloc, sizeDrew, sizeSet, sizePut] <;> omega) | fail) only [GS1, GS2, GS3, GS4, GS5, GS6, GS7, GS8, GS9, GS10, GS11, TT_eq, TTl, Nat.reduceAdd, Nat.reduceMul, Nat.reduceSub, Nat.reduceDiv, Nat.reduceMod, Nat.reducePow, Nat.reduceEqDiff, ↓reduceIte, reduceCtorEq, true_and, and_true, and_self, false_and, and_false, Int.reduceToNat, Int.reduceAdd, Int.reduceSub, Int.reduceMul, cond_true, cond_false, List.toList_toArray, Option.map_some, Option.map_none, Option.some.injEq, List.cons_append, List.nil_append, List.length_cons, List.length_nil, List.getD_cons_zero, List.getD_cons_succ]
    exact h0 (by omega) _ hM02
end Go.Proofs.Ytpcmebcfgmoipaa

set_option linter.unusedSimpArgs false
set_option linter.unusedVariables false
namespace Go.Proofs.Ytpcmebcfgmoipaa
open Go Go.Wk Go.RowKit
attribute [local irreducible] go Hold
open Go.Lib
def sepS : List UInt8 := [44, 32]
/-- Terms up to a sign, behind others. -/
def partsF (W : List UInt8 → Option (List UInt8 × List UInt8)) (e : List UInt8) : Nat → List (List UInt8) → List UInt8 → Option (List (List UInt8) × List UInt8)
  | 0, _, _ => none
  | f + 1, l, r =>
    if preS e r = true then some (l, r.drop e.length) else
    if l.length < 32 ∧ (l.length = 0 ∨ preS sepS r = true) then
      match W (if l.length = 0 then r else r.drop 2) with
      | some (t, r') => partsF W e f (l ++ [t]) r'
      | none => none
    else none
def hadO (p : List UInt8 × Int) (r : List UInt8) : Option (List UInt8 × List UInt8) := if p.2 = 0 then some (p.1, r) else none
def kindO (c : List UInt8) (l : List (List UInt8)) (r : List UInt8) : Option (List UInt8 × List UInt8) :=
  if (c = [104] ∧ l.length = 1) ∨ (c = [109] ∧ l.length = 2) ∨ (c = [115] ∧ l.length = 3) then hadO (madeS c l) r else none
/-- The term that a line begins with, and what is left; f is 17 less the depth. -/
def termF : Nat → List UInt8 → Option (List UInt8 × List UInt8)
  | 0, _ => none
  | f + 1, r =>
    if preS [36] r = true then hadO (atomS ((r.drop 1).take (whlS nmB (r.drop 1)))) ((r.drop 1).drop (whlS nmB (r.drop 1)))
    else if preS [120] r = true then (if (hexS (r.drop 1)).length % 2 = 0 ∧ plainS (hexP (hexS (r.drop 1))) = false then hadO (dataS (hexP (hexS (r.drop 1)))) ((r.drop 1).drop (hexS (r.drop 1)).length) else none)
    else if preS [34] r = true then (if preS [34] ((r.drop 1).drop (whlS plB (r.drop 1))) = true then hadO (dataS ((r.drop 1).take (whlS plB (r.drop 1)))) (((r.drop 1).drop (whlS plB (r.drop 1))).drop 1) else none)
    else if preS [91] r = true then (match partsF (termF f) [93] 34 [] (r.drop 1) with | some (l, r') => hadO (madeS (114 :: numL l.length) l) r' | none => none)
    else if r.length = 0 then none
    else if preS [40] (r.drop 1) = true then (match partsF (termF f) [41] 34 [] ((r.drop 1).drop 1) with | some (l, r') => kindO (r.take 1) l r' | none => none)
    else none
/-- What is left is no longer. -/
theorem hadO_some {p : List UInt8 × Int} {r t r' : List UInt8} (h : hadO p r = some (t, r')) : p.2 = 0 ∧ t = p.1 ∧ r' = r := by
  unfold hadO at h
  split at h
  · simp only [Option.some.injEq, Prod.mk.injEq] at h
    exact ⟨‹_›, h.1.symm, h.2.symm⟩
  · simp at h
theorem partsF_le {W : List UInt8 → Option (List UInt8 × List UInt8)} (hW : ∀ r t r', W r = some (t, r') → r'.length ≤ r.length) (e : List UInt8) : ∀ (f : Nat) (l : List (List UInt8)) (r : List UInt8) (l' : List (List UInt8)) (r' : List UInt8), partsF W e f l r = some (l', r') → r'.length ≤ r.length
  | 0, l, r, l', r', h => by simp [partsF] at h
  | f + 1, l, r, l', r', h => by
    simp only [partsF] at h
    split at h
    · simp only [Option.some.injEq, Prod.mk.injEq] at h
      rw [← h.2, List.length_drop]; omega
    · split at h
      · cases hw : W (if l.length = 0 then r else r.drop 2) with
        | none => rw [hw] at h; simp at h
        | some p =>
          obtain ⟨t, q⟩ := p
          rw [hw] at h
          have h1 := hW _ _ _ hw
          have h2 := partsF_le hW e f _ _ _ _ h
          split at h1
          · omega
          · rw [List.length_drop] at h1; omega
      · simp at h
end Go.Proofs.Ytpcmebcfgmoipaa
