/-
  sha: turning right (walk).
-/
import Derived.Test.YtoladcdelaemoaaQeSha0
set_option linter.unusedSimpArgs false
set_option linter.unusedVariables false
set_option maxRecDepth 20000
namespace Go.Proofs.Ytoladcdelaemoaa
open Go Go.Wk Go.RowKit
attribute [local irreducible] go Hold
/-- A number turned right. -/
def rotR (x : Int) (n : Nat) : Int := bits .or .u32 (IntKind.u32.wrap (x * 2 ^ (32 - n))) (x.fdiv (2 ^ n))
theorem and31 : ∀ n : Nat, n < 32 → 1 ≤ n → bits BinOp.and IntKind.u64 (IntKind.u64.wrap (-(n : Int))) 31 = ((32 - n : Nat) : Int) := by decide
theorem unNeg {k : IntKind} {n : Int} : unV UnOp.neg (.int k n) = none := rfl
theorem neg32 : ∀ n : Nat, n < 32 → IntKind.i64.wrap (-(n : Int)) = -(n : Int) := by decide
theorem cap32 (m : Nat) (h : m ≤ 32) : capN .u32 m = m := by simp [capN, IntKind.bits]; omega
set_option maxHeartbeats 2000000 in
theorem right_cps (x : Int) (n : Nat) (hn : n < 32) (h1 : 1 ≤ n) (w : World) (R : Ending → World → Prop) (hR : R (.returned (.int .u32 (rotR x n))) w) :
    Calls Try.prog 148 #[.int .u32 x, .int .i64 n] w R := by
  refine calls_go 4000 okT Try.func148 rfl (rs := [.tmp 4]) rfl Try.ntmps148 (args := [.int .u32 x, .int .i64 n]) ?_
  simp (maxSteps := 1000000) (disch := first | omega | (simp only [sizeAlloc, sizeDrew, sizeSet, sizePut] <;> omega) | fail) only [GS, TT_eq, TTl, Nat.reduceAdd, Nat.reduceMul, Nat.reduceSub, Nat.reduceDiv, Nat.reduceMod, Nat.reducePow, Nat.reduceEqDiff, ↓reduceIte, reduceCtorEq, Int.reduceToNat, Int.reduceAdd, Int.reduceSub, Int.reduceMul, unNeg]
  refine hold_val (by simp) (v := .int .i64 (-(n : Int))) (w' := w) ?_ (hold_ops okT (rs := [.tmp 4]) rfl ?_)
  · simp [execOp, ev_eq, Op.unary, Op.intArith]
    show (Sem.run Try.prog (pure (Value.int .i64 (IntKind.i64.wrap (-(n : Int))))) w).andThen (fun a w' => Result.ok (Next.value a) w') = _
    rw [neg32 n hn]
    rfl
  simp (maxSteps := 1000000) (disch := first | omega | (simp only [sizeAlloc, sizeDrew, sizeSet, sizePut] <;> omega) | fail) only [GS, TT_eq, TTl, Nat.reduceAdd, Nat.reduceMul, Nat.reduceSub, Nat.reduceDiv, Nat.reduceMod, Nat.reducePow, Nat.reduceEqDiff, ↓reduceIte, reduceCtorEq, Int.reduceToNat, Int.reduceAdd, Int.reduceSub, Int.reduceMul]
  refine ⟨fok150, ?_⟩
  refine calls_go 4000 okT Try.func150 rfl (rs := [.tmp 4]) rfl Try.ntmps150 (args := [.int .u32 x, .int .i64 (-(n : Int))]) ?_
  have e1 : ((32 - n : Nat) : Int).toNat = 32 - n := by omega
  have e2 : (32 - ((32 - n : Nat) : Int)) = (n : Int) := by omega
  have c1 := cap32 (32 - n) (by omega)
  have c2 := cap32 n (by omega)
  simp (maxSteps := 1000000) (disch := first | omega | (simp only [sizeAlloc, sizeDrew, sizeSet, sizePut] <;> omega) | fail) only [GS, TT_eq, TTl, Nat.reduceAdd, Nat.reduceMul, Nat.reduceSub, Nat.reduceDiv, Nat.reduceMod, Nat.reducePow, Nat.reduceEqDiff, ↓reduceIte, reduceCtorEq, Int.reduceToNat, Int.reduceAdd, Int.reduceSub, Int.reduceMul, and31 n hn h1, c1, c2, e1, e2, Int.toNat_natCast]
  refine .inl ⟨_, rfl, hold_ops okT (rs := [.tmp 4]) rfl ?_⟩
  simp (maxSteps := 1000000) (disch := first | omega | (simp only [sizeAlloc, sizeDrew, sizeSet, sizePut] <;> omega) | fail) only [GS, TT_eq, TTl, Nat.reduceAdd, Nat.reduceMul, Nat.reduceSub, Nat.reduceDiv, Nat.reduceMod, Nat.reducePow, Nat.reduceEqDiff, ↓reduceIte, reduceCtorEq, Int.reduceToNat, Int.reduceAdd, Int.reduceSub, Int.reduceMul]
  exact hR
end Go.Proofs.Ytoladcdelaemoaa
