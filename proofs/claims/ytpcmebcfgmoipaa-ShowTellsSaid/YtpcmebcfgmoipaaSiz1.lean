/-
  term.Size, Depth (walks).
-/
import Derived.Test.YtpcmebcfgmoipaaPlc3
set_option linter.unusedSimpArgs false
set_option linter.unusedVariables false
namespace Go.Proofs.Ytpcmebcfgmoipaa
open Go Go.Wk Go.RowKit
attribute [local irreducible] go Hold
open Go.Lib
theorem places_cps (S : List UInt8) (w : World) (R : Ending → World → Prop)
    (hR : R (.returned (.func (.func 86) #[] #[.pointer (some ⟨w.heap.size, 0, none⟩)])) (w.alloc (.cells #[.string ⟨S.toArray⟩] 9))) :
    Calls Try.prog 51 #[.string ⟨S.toArray⟩] w R := by
  refine calls_go 4000 okT Try.func51 rfl (rs := [.tmp 2]) rfl Try.ntmps51 (args := [.string ⟨S.toArray⟩]) ?_
  simp (config := { maxSteps := 1000000 }) (disch := first | omega | (simp only [sizeAlloc, sizeDrew, sizeSet, sizePut] <;> omega) | fail) only [GS1, GS2, GS3, GS4, GS5, GS6, GS7, GS8, GS9, GS10, GS11, TT_eq, TTl, Nat.reduceAdd, Nat.reduceMul, Nat.reduceSub, Nat.reduceDiv, Nat.reduceMod, Nat.reducePow, Nat.reduceEqDiff, ↓reduceIte, reduceCtorEq, true_and, and_true, and_self, false_and, and_false, Int.reduceToNat, Int.reduceAdd, Int.reduceSub, Int.reduceMul, cond_true, cond_false, List.toList_toArray, Option.map_some, Option.map_none, Option.some.injEq, List.cons_append, List.nil_append, List.length_cons, List.length_nil, List.getD_cons_zero, List.getD_cons_succ]
  exact hR
def sizeS (s : List UInt8) : Nat := if checkS s = 0 then (placesS s).length else 0
theorem placesS_len (S : List UInt8) : (placesS S).length ≤ S.length := by
  have := List.length_filter_le (fun p : PL => decide (0 < p.2.2)) (atS S (walkS S 16 1 0).2.2)
  rw [atS_len] at this
  exact this
end Go.Proofs.Ytpcmebcfgmoipaa
