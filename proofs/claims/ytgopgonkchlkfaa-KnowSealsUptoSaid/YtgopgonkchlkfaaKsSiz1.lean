/-
  term.Size, Depth (walks).
-/
import Derived.Test.YtgopgonkchlkfaaKsPlc3
set_option linter.unusedSimpArgs false
set_option linter.unusedVariables false
set_option maxRecDepth 20000
namespace Go.Proofs.Ytgopgonkchlkfaa
open Go Go.Wk Go.RowKit
attribute [local irreducible] go Hold
open Go.Lib
theorem places_cps (S : List UInt8) (w : World) (R : Ending → World → Prop)
    (hR : R (.returned (.func (.func 122) #[] #[.pointer (some ⟨w.heap.size, 0, none⟩)])) (w.alloc (.cells #[.string ⟨S.toArray⟩] 9))) :
    Calls Try.prog 105 #[.string ⟨S.toArray⟩] w R := by
  refine calls_go 4000 okT Try.func105 rfl (rs := [.tmp 2]) rfl Try.ntmps105 (args := [.string ⟨S.toArray⟩]) ?_
  simp (maxSteps := 1000000) (disch := first | omega | (simp only [sizeAlloc, sizeDrew, sizeSet, sizePut] <;> omega) | fail) only [GS, TT_eq, TTl, Nat.reduceAdd, Nat.reduceMul, Nat.reduceSub, Nat.reduceDiv, Nat.reduceMod, Nat.reducePow, Nat.reduceEqDiff, ↓reduceIte, reduceCtorEq, Int.reduceToNat, Int.reduceAdd, Int.reduceSub, Int.reduceMul]
  exact hR
end Go.Proofs.Ytgopgonkchlkfaa
