/-
  The peer: the chapter's example; a row of steps that comes in.
-/
import Derived.Test.YtechabbdobbooaaPeer2
set_option linter.unusedSimpArgs false
set_option linter.unusedVariables false
namespace Go.Proofs.Ytechabbdobbooaa
open Go Go.Wk Go.RowKit
attribute [local irreducible] go Hold
theorem takeS_win {s : PS} (hs : WOk (s.t, s.v)) (a b n : Int) : WOk ((takeS s a b n).t, (takeS s a b n).v) := by
  unfold takeS
  split
  · exact hs
  · split
    · exact hs
    · split
      · exact hs
      · exact (hearS_win hs a).tk n
def q0 : PS := newS 2
def q1 : PS := takeS q0 1 2 1
def q2 : PS := takeS q1 1 2 1
def q3 : PS := takeS q2 1 1 2
def q4 : PS := takeS q3 3 2 1
def q5 : PS := takeS q4 1 2 3
theorem q0w : WOk (q0.t, q0.v) := ⟨by decide, by decide, by decide⟩
theorem q1w : WOk (q1.t, q1.v) := takeS_win q0w _ _ _
theorem q2w : WOk (q2.t, q2.v) := takeS_win q1w _ _ _
theorem q3w : WOk (q3.t, q3.v) := takeS_win q2w _ _ _
theorem q4w : WOk (q4.t, q4.v) := takeS_win q3w _ _ _
theorem q5w : WOk (q5.t, q5.v) := takeS_win q4w _ _ _
theorem q5ok : POk q5 := ⟨by decide, by decide, by decide, q5w⟩
set_option maxRecDepth 20000 in
set_option maxHeartbeats 4000000 in
theorem palive_cps (w : World) (R : Ending → World → Prop) (hR : ∀ w', Mod [] w w' → R (.returned (.bool true)) w') : Calls Try.prog 11 #[] w R := by
  refine calls_go 4000 okT Try.func11 rfl (rs := [.tmp 0]) rfl Try.ntmps11 (args := []) ?_
  simp (config := { maxSteps := 1000000 }) (disch := first | omega | (simp only [sizeAlloc, sizeDrew, sizeSet, sizePut]; omega) | fail) only [GS1, GS2, GS3, GS4, GS5, GS6, GS7, GS8, GS9, GS10, TT_eq, TTl, Nat.reduceAdd, Nat.reduceMul, Nat.reduceSub, Nat.reduceDiv, Nat.reduceMod, Nat.reducePow, Nat.reduceEqDiff, ↓reduceIte, reduceCtorEq, true_and, and_true, and_self, false_and, and_false, Int.reduceToNat, Int.reduceAdd, Int.reduceSub, Int.reduceMul, cond_true, cond_false, List.toList_toArray, Option.map_some, Option.map_none, Option.some.injEq, List.cons_append, List.nil_append]
  refine ⟨fok12, PNew_ok 2 _ _ (by decide) fun w0 pb wb0 hp hq0 k0 hM0 => .inl ⟨_, rfl, hold_ops okT (rs := [.tmp 0]) rfl ?_⟩⟩
  simp (config := { maxSteps := 1000000 }) (disch := first | omega | (simp only [sizeAlloc, sizeDrew, sizeSet, sizePut]; omega) | fail) only [GS1, GS2, GS3, GS4, GS5, GS6, GS7, GS8, GS9, GS10, TT_eq, TTl, Nat.reduceAdd, Nat.reduceMul, Nat.reduceSub, Nat.reduceDiv, Nat.reduceMod, Nat.reducePow, Nat.reduceEqDiff, ↓reduceIte, reduceCtorEq, true_and, and_true, and_self, false_and, and_false, Int.reduceToNat, Int.reduceAdd, Int.reduceSub, Int.reduceMul, cond_true, cond_false, List.toList_toArray, Option.map_some, Option.map_none, Option.some.injEq, List.cons_append, List.nil_append]
  have z0 := hM0.size
  refine ⟨fok14, PTake_cps pb wb0 q0 _ _ _ _ _ q0w k0 fun w1 wb1 hb k1 hM => .inl ⟨_, rfl, hold_ops okT (rs := [.tmp 0]) rfl ?_⟩⟩
  rw [show takeC q0 1 2 1 = 0 from by decide]
  have hM1 := hM0.trans hM (by simp; omega)
  have z1 := hM1.size
  have hq1 : w.heap.size ≤ wb1 := by omega
  clear hM hb
  simp (config := { maxSteps := 1000000 }) (disch := first | omega | (simp only [sizeAlloc, sizeDrew, sizeSet, sizePut]; omega) | fail) only [GS1, GS2, GS3, GS4, GS5, GS6, GS7, GS8, GS9, GS10, TT_eq, TTl, Nat.reduceAdd, Nat.reduceMul, Nat.reduceSub, Nat.reduceDiv, Nat.reduceMod, Nat.reducePow, Nat.reduceEqDiff, ↓reduceIte, reduceCtorEq, true_and, and_true, and_self, false_and, and_false, Int.reduceToNat, Int.reduceAdd, Int.reduceSub, Int.reduceMul, cond_true, cond_false, List.toList_toArray, Option.map_some, Option.map_none, Option.some.injEq, List.cons_append, List.nil_append]
  refine ⟨fok14, PTake_cps pb wb1 q1 _ _ _ _ _ q1w k1 fun w2 wb2 hb k2 hM => .inl ⟨_, rfl, hold_ops okT (rs := [.tmp 0]) rfl ?_⟩⟩
  rw [show takeC q1 1 2 1 = 9 from by decide]
  have hM2 := hM1.trans hM (by simp; omega)
  have z2 := hM2.size
  have hq2 : w.heap.size ≤ wb2 := by omega
  clear hM hb
  simp (config := { maxSteps := 1000000 }) (disch := first | omega | (simp only [sizeAlloc, sizeDrew, sizeSet, sizePut]; omega) | fail) only [GS1, GS2, GS3, GS4, GS5, GS6, GS7, GS8, GS9, GS10, TT_eq, TTl, Nat.reduceAdd, Nat.reduceMul, Nat.reduceSub, Nat.reduceDiv, Nat.reduceMod, Nat.reducePow, Nat.reduceEqDiff, ↓reduceIte, reduceCtorEq, true_and, and_true, and_self, false_and, and_false, Int.reduceToNat, Int.reduceAdd, Int.reduceSub, Int.reduceMul, cond_true, cond_false, List.toList_toArray, Option.map_some, Option.map_none, Option.some.injEq, List.cons_append, List.nil_append]
  refine ⟨fok14, PTake_cps pb wb2 q2 _ _ _ _ _ q2w k2 fun w3 wb3 hb k3 hM => .inl ⟨_, rfl, hold_ops okT (rs := [.tmp 0]) rfl ?_⟩⟩
  rw [show takeC q2 1 1 2 = 190 from by decide]
  have hM3 := hM2.trans hM (by simp; omega)
  have z3 := hM3.size
  have hq3 : w.heap.size ≤ wb3 := by omega
  clear hM hb
  simp (config := { maxSteps := 1000000 }) (disch := first | omega | (simp only [sizeAlloc, sizeDrew, sizeSet, sizePut]; omega) | fail) only [GS1, GS2, GS3, GS4, GS5, GS6, GS7, GS8, GS9, GS10, TT_eq, TTl, Nat.reduceAdd, Nat.reduceMul, Nat.reduceSub, Nat.reduceDiv, Nat.reduceMod, Nat.reducePow, Nat.reduceEqDiff, ↓reduceIte, reduceCtorEq, true_and, and_true, and_self, false_and, and_false, Int.reduceToNat, Int.reduceAdd, Int.reduceSub, Int.reduceMul, cond_true, cond_false, List.toList_toArray, Option.map_some, Option.map_none, Option.some.injEq, List.cons_append, List.nil_append]
  refine ⟨fok14, PTake_cps pb wb3 q3 _ _ _ _ _ q3w k3 fun w4 wb4 hb k4 hM => .inl ⟨_, rfl, hold_ops okT (rs := [.tmp 0]) rfl ?_⟩⟩
  rw [show takeC q3 3 2 1 = 0 from by decide]
  have hM4 := hM3.trans hM (by simp; omega)
  have z4 := hM4.size
  have hq4 : w.heap.size ≤ wb4 := by omega
  clear hM hb
  simp (config := { maxSteps := 1000000 }) (disch := first | omega | (simp only [sizeAlloc, sizeDrew, sizeSet, sizePut]; omega) | fail) only [GS1, GS2, GS3, GS4, GS5, GS6, GS7, GS8, GS9, GS10, TT_eq, TTl, Nat.reduceAdd, Nat.reduceMul, Nat.reduceSub, Nat.reduceDiv, Nat.reduceMod, Nat.reducePow, Nat.reduceEqDiff, ↓reduceIte, reduceCtorEq, true_and, and_true, and_self, false_and, and_false, Int.reduceToNat, Int.reduceAdd, Int.reduceSub, Int.reduceMul, cond_true, cond_false, List.toList_toArray, Option.map_some, Option.map_none, Option.some.injEq, List.cons_append, List.nil_append]
  refine ⟨fok14, PTake_cps pb wb4 q4 _ _ _ _ _ q4w k4 fun w5 wb5 hb k5 hM => .inl ⟨_, rfl, hold_ops okT (rs := [.tmp 0]) rfl ?_⟩⟩
  rw [show takeC q4 1 2 3 = 180 from by decide]
  have hM5 := hM4.trans hM (by simp; omega)
  have z5 := hM5.size
  have hq5 : w.heap.size ≤ wb5 := by omega
  clear hM hb
  simp (config := { maxSteps := 1000000 }) (disch := first | omega | (simp only [sizeAlloc, sizeDrew, sizeSet, sizePut]; omega) | fail) only [GS1, GS2, GS3, GS4, GS5, GS6, GS7, GS8, GS9, GS10, TT_eq, TTl, Nat.reduceAdd, Nat.reduceMul, Nat.reduceSub, Nat.reduceDiv, Nat.reduceMod, Nat.reducePow, Nat.reduceEqDiff, ↓reduceIte, reduceCtorEq, true_and, and_true, and_self, false_and, and_false, Int.reduceToNat, Int.reduceAdd, Int.reduceSub, Int.reduceMul, cond_true, cond_false, List.toList_toArray, Option.map_some, Option.map_none, Option.some.injEq, List.cons_append, List.nil_append]
  refine ⟨fok16, Stamp_cps pb wb5 q5 _ _ q5ok k5 fun w6 k6 hM => .inl ⟨_, rfl, hold_ops okT (rs := [.tmp 0]) rfl ?_⟩⟩
  rw [show stampA q5 = .tuple #[.int .i64 2, .int .i64 3, .int .i64 1, .int .i64 0] from rfl]
  simp (config := { maxSteps := 1000000 }) (disch := first | omega | (simp only [sizeAlloc, sizeDrew, sizeSet, sizePut]; omega) | fail) only [GS1, GS2, GS3, GS4, GS5, GS6, GS7, GS8, GS9, GS10, TT_eq, TTl, Nat.reduceAdd, Nat.reduceMul, Nat.reduceSub, Nat.reduceDiv, Nat.reduceMod, Nat.reducePow, Nat.reduceEqDiff, ↓reduceIte, reduceCtorEq, true_and, and_true, and_self, false_and, and_false, Int.reduceToNat, Int.reduceAdd, Int.reduceSub, Int.reduceMul, cond_true, cond_false, List.toList_toArray, Option.map_some, Option.map_none, Option.some.injEq, List.cons_append, List.nil_append]
  exact hR _ (hM5.trans hM (by simp; omega))
end Go.Proofs.Ytechabbdobbooaa
