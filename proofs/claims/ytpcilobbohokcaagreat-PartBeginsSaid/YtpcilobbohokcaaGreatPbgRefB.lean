/-
  The reference's organisations and transactions (walks).
-/
import Derived.Test.YtpcilobbohokcaaGreatPbgB5
import Derived.Test.YtpcilobbohokcaaGreatPbgW1
import Derived.Test.YtpcilobbohokcaaGreatPbgW2
set_option linter.unusedSimpArgs false
set_option linter.unusedVariables false
set_option maxRecDepth 20000
namespace Go.Proofs.YtpcilobbohokcaaGreat
open Go Go.Wk Go.RowKit
attribute [local irreducible] go Hold
open Go.Lib
theorem rOrg_cps (k : Int) (w : World) (R : Ending → World → Prop) (hR : R (.returned (.bool (orgB k))) w) : Calls Tryz.prog 92 #[.int .i64 k] w R := by
  refine calls_go 4000 okT Tryz.func92 rfl (rs := [.tmp 2]) rfl Tryz.ntmps92 (args := [.int .i64 k]) ?_
  unfold orgB at hR
  by_cases h0 : 0 ≤ k
  · by_cases h8 : k < 8
    · rw [decide_eq_true ⟨h0, h8⟩] at hR
      simp (maxSteps := 1000000) (disch := first | omega | (simp only [sizeAlloc, sizeDrew, sizeSet, sizePut] <;> omega) | fail) only [GS, TT_eq, TTl, Nat.reduceAdd, Nat.reduceMul, Nat.reduceSub, Nat.reduceDiv, Nat.reduceMod, Nat.reducePow, Nat.reduceEqDiff, ↓reduceIte, reduceCtorEq, Int.reduceToNat, Int.reduceAdd, Int.reduceSub, Int.reduceMul, h0, h8]
      exact hR
    · rw [decide_eq_false (fun h => h8 h.2)] at hR
      simp (maxSteps := 1000000) (disch := first | omega | (simp only [sizeAlloc, sizeDrew, sizeSet, sizePut] <;> omega) | fail) only [GS, TT_eq, TTl, Nat.reduceAdd, Nat.reduceMul, Nat.reduceSub, Nat.reduceDiv, Nat.reduceMod, Nat.reducePow, Nat.reduceEqDiff, ↓reduceIte, reduceCtorEq, Int.reduceToNat, Int.reduceAdd, Int.reduceSub, Int.reduceMul, h0, h8]
      exact hR
  · rw [decide_eq_false (fun h => h0 h.1)] at hR
    simp (maxSteps := 1000000) (disch := first | omega | (simp only [sizeAlloc, sizeDrew, sizeSet, sizePut] <;> omega) | fail) only [GS, TT_eq, TTl, Nat.reduceAdd, Nat.reduceMul, Nat.reduceSub, Nat.reduceDiv, Nat.reduceMod, Nat.reducePow, Nat.reduceEqDiff, ↓reduceIte, reduceCtorEq, Int.reduceToNat, Int.reduceAdd, Int.reduceSub, Int.reduceMul, h0]
    exact hR
set_option maxHeartbeats 2000000 in
theorem rMayTxn_cps (x : Tx) (w : World) (R : Ending → World → Prop) (hR : ∀ w', Mod [] w w' → R (.returned (.bool (txB x))) w') : Calls Tryz.prog 43 #[txV x] w R := by
  obtain ⟨a, b, c⟩ := x
  unfold txB at hR
  unfold txV
  simp only at hR ⊢
  refine calls_go 4000 okT Tryz.func43 rfl (rs := [.tmp 2]) rfl Tryz.ntmps43 (args := [.agg #[.int .i64 a, .int .i64 b, .int .i64 c]]) ?_
  simp (maxSteps := 1000000) (disch := first | omega | (simp only [sizeAlloc, sizeDrew, sizeSet, sizePut] <;> omega) | fail) only [GS, TT_eq, TTl, Nat.reduceAdd, Nat.reduceMul, Nat.reduceSub, Nat.reduceDiv, Nat.reduceMod, Nat.reducePow, Nat.reduceEqDiff, ↓reduceIte, reduceCtorEq, Int.reduceToNat, Int.reduceAdd, Int.reduceSub, Int.reduceMul]
  have hM := (Mod.refl [] w).alloc (.cells #[.int .i64 a, .int .i64 b, .int .i64 c] 24)
  have hb := heapNew (w := w) (o := .cells #[.int .i64 a, .int .i64 b, .int .i64 c] 24)
  generalize w.alloc (.cells #[.int .i64 a, .int .i64 b, .int .i64 c] 24) = w1 at hM hb ⊢
  generalize w.heap.size = n at *
  have hR := hR _ hM
  have c1 := fun o => cellOf (o := o) hb
  refine ⟨fok92, rOrg_cps a _ _ (.inl ⟨_, rfl, hold_ops okT (rs := [.tmp 2]) rfl ?_⟩)⟩
  unfold orgB
  by_cases h0 : 0 ≤ a ∧ a < 8
  rotate_left
  · rw [decide_eq_false (fun h => h0 ⟨h.1, h.2.1⟩)] at hR
    rw [decide_eq_false h0]
    simp (maxSteps := 1000000) (disch := first | omega | (simp only [sizeAlloc, sizeDrew, sizeSet, sizePut] <;> omega) | fail) only [GS, TT_eq, TTl, Nat.reduceAdd, Nat.reduceMul, Nat.reduceSub, Nat.reduceDiv, Nat.reduceMod, Nat.reducePow, Nat.reduceEqDiff, ↓reduceIte, reduceCtorEq, Int.reduceToNat, Int.reduceAdd, Int.reduceSub, Int.reduceMul, c1]
    exact hR
  rw [decide_eq_true h0]
  by_cases h1 : 1 ≤ b
  rotate_left
  · rw [decide_eq_false (fun h => h1 h.2.2.1)] at hR
    simp (maxSteps := 1000000) (disch := first | omega | (simp only [sizeAlloc, sizeDrew, sizeSet, sizePut] <;> omega) | fail) only [GS, TT_eq, TTl, Nat.reduceAdd, Nat.reduceMul, Nat.reduceSub, Nat.reduceDiv, Nat.reduceMod, Nat.reducePow, Nat.reduceEqDiff, ↓reduceIte, reduceCtorEq, Int.reduceToNat, Int.reduceAdd, Int.reduceSub, Int.reduceMul, c1, h1]
    exact hR
  by_cases h2 : b ≤ 255
  rotate_left
  · rw [decide_eq_false (fun h => h2 h.2.2.2.1)] at hR
    simp (maxSteps := 1000000) (disch := first | omega | (simp only [sizeAlloc, sizeDrew, sizeSet, sizePut] <;> omega) | fail) only [GS, TT_eq, TTl, Nat.reduceAdd, Nat.reduceMul, Nat.reduceSub, Nat.reduceDiv, Nat.reduceMod, Nat.reducePow, Nat.reduceEqDiff, ↓reduceIte, reduceCtorEq, Int.reduceToNat, Int.reduceAdd, Int.reduceSub, Int.reduceMul, c1, h1, h2]
    exact hR
  by_cases h3 : 1 ≤ c
  rotate_left
  · rw [decide_eq_false (fun h => h3 h.2.2.2.2.1)] at hR
    simp (maxSteps := 1000000) (disch := first | omega | (simp only [sizeAlloc, sizeDrew, sizeSet, sizePut] <;> omega) | fail) only [GS, TT_eq, TTl, Nat.reduceAdd, Nat.reduceMul, Nat.reduceSub, Nat.reduceDiv, Nat.reduceMod, Nat.reducePow, Nat.reduceEqDiff, ↓reduceIte, reduceCtorEq, Int.reduceToNat, Int.reduceAdd, Int.reduceSub, Int.reduceMul, c1, h1, h2, h3]
    exact hR
  by_cases h4 : c ≤ 65535
  rotate_left
  · rw [decide_eq_false (fun h => h4 h.2.2.2.2.2)] at hR
    simp (maxSteps := 1000000) (disch := first | omega | (simp only [sizeAlloc, sizeDrew, sizeSet, sizePut] <;> omega) | fail) only [GS, TT_eq, TTl, Nat.reduceAdd, Nat.reduceMul, Nat.reduceSub, Nat.reduceDiv, Nat.reduceMod, Nat.reducePow, Nat.reduceEqDiff, ↓reduceIte, reduceCtorEq, Int.reduceToNat, Int.reduceAdd, Int.reduceSub, Int.reduceMul, c1, h1, h2, h3, h4]
    exact hR
  rw [decide_eq_true ⟨h0.1, h0.2, h1, h2, h3, h4⟩] at hR
  simp (maxSteps := 1000000) (disch := first | omega | (simp only [sizeAlloc, sizeDrew, sizeSet, sizePut] <;> omega) | fail) only [GS, TT_eq, TTl, Nat.reduceAdd, Nat.reduceMul, Nat.reduceSub, Nat.reduceDiv, Nat.reduceMod, Nat.reducePow, Nat.reduceEqDiff, ↓reduceIte, reduceCtorEq, Int.reduceToNat, Int.reduceAdd, Int.reduceSub, Int.reduceMul, c1, h1, h2, h3, h4]
  exact hR
end Go.Proofs.YtpcilobbohokcaaGreat
