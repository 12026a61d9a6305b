/-
  The reference's organisations and transactions (walks).
-/
import Derived.Test.YthnlmmkhehphiaaGreatDoorEtRefA
import Derived.Test.YthnlmmkhehphiaaGreatDoorEtW2
set_option linter.unusedSimpArgs false
set_option linter.unusedVariables false
set_option maxRecDepth 20000
namespace Go.Proofs.YthnlmmkhehphiaaGreatDoor
open Go Go.Wk Go.RowKit
attribute [local irreducible] go Hold
open Go.Lib
theorem rOrg_cps (k : Int) (w : World) (R : Ending → World → Prop) (hR : R (.returned (.bool (orgB k))) w) : Calls Tryz.prog 76 #[.int .i64 k] w R := by
  refine calls_go 4000 okT Tryz.func76 rfl (rs := [.tmp 2]) rfl Tryz.ntmps76 (args := [.int .i64 k]) ?_
  unfold orgB at hR
  by_cases h0 : 0 ≤ k
  · by_cases h8 : k < 8
    · rw [decide_eq_true ⟨h0, h8⟩] at hR
      simp (maxSteps := 1000000) (disch := first | omega | (simp only [sizeAlloc, sizeDrew, sizeSet, sizePut] <;> omega) | fail) only [GS, TT_eq, TTl, Nat.reduceAdd, Nat.reduceMul, Nat.reduceSub, Nat.reduceDiv, Nat.reduceMod, Nat.reducePow, Nat.reduceEqDiff, ↓reduceIte, reduceCtorEq, Int.reduceToNat, Int.reduceAdd, Int.reduceSub, Int.reduceMul, h0, h8]
      exact hR
    · rw [decide_eq_false (fun h => h8 h.2)] at hR
      simp (maxSteps := 1000000) (disch := first | omega | (simp only [sizeAlloc, sizeDrew, sizeSet, sizePut] <;> omega) | fail) only [GS, TT_eq, TTl, Nat.reduceAdd, Nat.reduceMul, Nat.reduceSub, Nat.reduceDiv, Nat.reduceMod, Nat.reducePow, Nat.reduceEqDiff, ↓reduceIte, reduceCtorEq, Int.reduceToNat, Int.reduceAdd, Int.reduceSub, Int.reduceMul, h0, h8]
      exact hR
  · rw [decide_eq_false (fun h => h0 h.1)] at hR
    simp (maxSteps := 1000000) (disch := first | omega | (simp only [sizeAlloc, sizeDrew, sizeSet, sizePut] <;> omega) | fail) only [GS, TT_eq, TTl, Nat.reduceAdd, Nat.reduceMul, Nat.reduceSub, Nat.reduceDiv, Nat.reduceMod, Nat.reducePow, Nat.reduceEqDiff, ↓reduceIte, reduceCtorEq, Int.reduceToNat, Int.reduceAdd, Int.reduceSub, Int.reduceMul, h0]
    exact hR
end Go.Proofs.YthnlmmkhehphiaaGreatDoor
