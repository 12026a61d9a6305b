/-
  term.Read: what is thrown is caught.
-/
import Derived.Test.YticoollhaachfaaWlk3
set_option linter.unusedSimpArgs false
set_option linter.unusedVariables false
namespace Go.Proofs.Yticoollhaachfaa
open Go Go.Wk Go.RowKit
attribute [local irreducible] go Hold
set_option maxHeartbeats 2000000 in
theorem caught_cps (e : Int) (w : World) (R : Ending → World → Prop) (hR : ∀ w', Mod [] w w' → R (.returned (.int .i64 e)) w') :
    Calls Try.prog 71 #[.iface 133 (.agg #[.int .i64 e])] w R := by
  refine calls_go 4000 okT Try.func71 rfl (rs := [.tmp 2]) rfl Try.ntmps71 (args := [.iface 133 (.agg #[.int .i64 e])]) ?_
  simp (config := { maxSteps := 1000000 }) (disch := first | omega | (simp only [sizeAlloc, sizeDrew, sizeSet, sizePut] <;> omega) | fail) only [GS1, GS2, GS3, GS4, GS5, GS6, GS7, GS8, GS9, GS10, GS11, TT_eq, TTl, Nat.reduceAdd, Nat.reduceMul, Nat.reduceSub, Nat.reduceDiv, Nat.reduceMod, Nat.reducePow, Nat.reduceEqDiff, ↓reduceIte, reduceCtorEq, true_and, and_true, and_self, false_and, and_false, Int.reduceToNat, Int.reduceAdd, Int.reduceSub, Int.reduceMul, cond_true, cond_false, List.toList_toArray, Option.map_some, Option.map_none, Option.some.injEq, List.cons_append, List.nil_append, List.length_cons, List.length_nil, List.getD_cons_zero, List.getD_cons_succ]
  exact hR _ (((Mod.refl _ _).alloc _).set (p := ⟨w.heap.size, 0, none⟩) (.inr (Nat.le_refl _)) _)
theorem readD_ret (p q : Value) (w : World) (R : Ending → FrameMode → World → Prop) (hR : R (.returned (.tuple #[])) .returning w) :
    CallsR Try.prog 70 #[p, q] .returning w R := by
  refine callsDIn_of_wpSIn Try.func70 rfl (by trivial) fun c₀ cs hu => ?_
  apply wpSIn_seq
  apply wpSIn_region
  simp [wpOpsSIn, go_sem, recoverD, hu, Try.ntmps70, Exit.thenS]
  have e : c₀ = { c₀ with mode := .returning } := by cases c₀; simp only at hu; subst hu; rfl
  rw [e]
  refine wpS_go (fs := [p, q, .nilIface, .nilIface, undef, undef, undef, undef]) okT (rs := []) rfl ?_
  simp (config := { maxSteps := 1000000 }) (disch := first | omega | (simp only [sizeAlloc, sizeDrew, sizeSet, sizePut] <;> omega) | fail) only [GS1, GS2, GS3, GS4, GS5, GS6, GS7, GS8, GS9, GS10, GS11, TT_eq, TTl, Nat.reduceAdd, Nat.reduceMul, Nat.reduceSub, Nat.reduceDiv, Nat.reduceMod, Nat.reducePow, Nat.reduceEqDiff, ↓reduceIte, reduceCtorEq, true_and, and_true, and_self, false_and, and_false, Int.reduceToNat, Int.reduceAdd, Int.reduceSub, Int.reduceMul, cond_true, cond_false, List.toList_toArray, Option.map_some, Option.map_none, Option.some.injEq, List.cons_append, List.nil_append, List.length_cons, List.length_nil, List.getD_cons_zero, List.getD_cons_succ]
  unfold recEnd
  simp (config := { maxSteps := 1000000 }) (disch := first | omega | (simp only [sizeAlloc, sizeDrew, sizeSet, sizePut] <;> omega) | fail) only [GS1, GS2, GS3, GS4, GS5, GS6, GS7, GS8, GS9, GS10, GS11, TT_eq, TTl, Nat.reduceAdd, Nat.reduceMul, Nat.reduceSub, Nat.reduceDiv, Nat.reduceMod, Nat.reducePow, Nat.reduceEqDiff, ↓reduceIte, reduceCtorEq, true_and, and_true, and_self, false_and, and_false, Int.reduceToNat, Int.reduceAdd, Int.reduceSub, Int.reduceMul, cond_true, cond_false, List.toList_toArray, Option.map_some, Option.map_none, Option.some.injEq, List.cons_append, List.nil_append, List.length_cons, List.length_nil, List.getD_cons_zero, List.getD_cons_succ]
  exact hR
/-- What was thrown, once caught. -/
def doneV (e : Int) : List PanicEntry := [{ v := .iface 133 (.agg #[.int .i64 e]), recovered := true }]
theorem readD_pan (a b : Nat) (e : Int) (x y : Value) (ta tb : Nat) (w : World) (hab : a ≠ b) (hA : w.heap[a]? = some (.cells #[x] ta (0, 0))) (hB : w.heap[b]? = some (.cells #[y] tb (0, 0))) (R : Ending → FrameMode → World → Prop)
    (hR : ∀ w', w'.heap[a]? = some (.cells #[.int .i64 0] ta (0, 0)) → w'.heap[b]? = some (.cells #[.int .i64 e] tb (0, 0)) → Mod [a, b] w w' → R (.returned (.tuple #[])) (.panicking (doneV e)) w') :
    CallsR Try.prog 70 #[.pointer (some ⟨a, 0, none⟩), .pointer (some ⟨b, 0, none⟩)] (.panicking (wrongV e)) w R := by
  refine callsDIn_of_wpSIn Try.func70 rfl (by trivial) fun c₀ cs hu => ?_
  apply wpSIn_seq
  apply wpSIn_region
  unfold wrongV at hu
  simp [wpOpsSIn, go_sem, recoverD, hu, Try.ntmps70, Exit.thenS]
  refine wpS_go (u := .panicking [{ v := .iface 133 (.agg #[.int .i64 e]), recovered := true }]) (fs := [.pointer (some ⟨a, 0, none⟩), .pointer (some ⟨b, 0, none⟩), .iface 133 (.agg #[.int .i64 e]), .iface 133 (.agg #[.int .i64 e]), undef, undef, undef, undef]) okT (rs := []) rfl ?_
  simp (config := { maxSteps := 1000000 }) (disch := first | omega | (simp only [sizeAlloc, sizeDrew, sizeSet, sizePut] <;> omega) | fail) only [GS1, GS2, GS3, GS4, GS5, GS6, GS7, GS8, GS9, GS10, GS11, TT_eq, TTl, Nat.reduceAdd, Nat.reduceMul, Nat.reduceSub, Nat.reduceDiv, Nat.reduceMod, Nat.reducePow, Nat.reduceEqDiff, ↓reduceIte, reduceCtorEq, true_and, and_true, and_self, false_and, and_false, Int.reduceToNat, Int.reduceAdd, Int.reduceSub, Int.reduceMul, cond_true, cond_false, List.toList_toArray, Option.map_some, Option.map_none, Option.some.injEq, List.cons_append, List.nil_append, List.length_cons, List.length_nil, List.getD_cons_zero, List.getD_cons_succ]
  refine ⟨fok71, caught_cps e _ _ fun w1 hM => .inl ⟨_, rfl, hold_ops (fn := fnR) okT (rs := []) rfl ?_⟩⟩
  have hA1 := hM.get hA (by simp)
  have hB1 := hM.get hB (by simp)
  have hca : w1.cell? ⟨a, 0, none⟩ = some x := by rw [cellOf hA1]; rfl
  have hcb : w1.cell? ⟨b, 0, none⟩ = some y := by rw [cellOf hB1]; rfl
  have hfa := frozenOf (o := 0) hA1
  have hfb := frozenOf (o := 0) hB1
  simp (config := { maxSteps := 1000000 }) (disch := first | omega | (simp only [sizeAlloc, sizeDrew, sizeSet, sizePut] <;> omega) | fail) only [GS1, GS2, GS3, GS4, GS5, GS6, GS7, GS8, GS9, GS10, GS11, TT_eq, TTl, Nat.reduceAdd, Nat.reduceMul, Nat.reduceSub, Nat.reduceDiv, Nat.reduceMod, Nat.reducePow, Nat.reduceEqDiff, ↓reduceIte, reduceCtorEq, true_and, and_true, and_self, false_and, and_false, Int.reduceToNat, Int.reduceAdd, Int.reduceSub, Int.reduceMul, cond_true, cond_false, List.toList_toArray, Option.map_some, Option.map_none, Option.some.injEq, List.cons_append, List.nil_append, List.length_cons, List.length_nil, List.getD_cons_zero, List.getD_cons_succ, hca, hcb, hfa, hfb]
  unfold recEnd
  simp (config := { maxSteps := 1000000 }) (disch := first | omega | (simp only [sizeAlloc, sizeDrew, sizeSet, sizePut] <;> omega) | fail) only [GS1, GS2, GS3, GS4, GS5, GS6, GS7, GS8, GS9, GS10, GS11, TT_eq, TTl, Nat.reduceAdd, Nat.reduceMul, Nat.reduceSub, Nat.reduceDiv, Nat.reduceMod, Nat.reducePow, Nat.reduceEqDiff, ↓reduceIte, reduceCtorEq, true_and, and_true, and_self, false_and, and_false, Int.reduceToNat, Int.reduceAdd, Int.reduceSub, Int.reduceMul, cond_true, cond_false, List.toList_toArray, Option.map_some, Option.map_none, Option.some.injEq, List.cons_append, List.nil_append, List.length_cons, List.length_nil, List.getD_cons_zero, List.getD_cons_succ]
  exact hR _ (heapSetNe (heapSet hA1) hab) (heapSet (heapSetNe hB1 hab.symm)) (((hM.mono (by simp)).set (p := ⟨a, 0, none⟩) (.inl (by simp)) _).set (p := ⟨b, 0, none⟩) (.inl (by simp)) _)
end Go.Proofs.Yticoollhaachfaa
