/-
  term.Read.
-/
import Derived.Test.YticoollhaachfaaWlk4
set_option linter.unusedSimpArgs false
set_option linter.unusedVariables false
namespace Go.Proofs.Yticoollhaachfaa
open Go Go.Wk Go.RowKit
attribute [local irreducible] go Hold
theorem readT_cps (x y z : Value) (w : World) (R : Ending → World → Prop) (hR : R (.returned (.tuple #[])) w) : Calls Try.prog 73 #[x, y, z] w R := by
  refine calls_go 4000 okT Try.func73 rfl (rs := []) rfl Try.ntmps73 (args := [x, y, z]) ?_
  simp (config := { maxSteps := 1000000 }) (disch := first | omega | (simp only [sizeAlloc, sizeDrew, sizeSet, sizePut] <;> omega) | fail) only [GS1, GS2, GS3, GS4, GS5, GS6, GS7, GS8, GS9, GS10, GS11, TT_eq, TTl, Nat.reduceAdd, Nat.reduceMul, Nat.reduceSub, Nat.reduceDiv, Nat.reduceMod, Nat.reducePow, Nat.reduceEqDiff, ↓reduceIte, reduceCtorEq, true_and, and_true, and_self, false_and, and_false, Int.reduceToNat, Int.reduceAdd, Int.reduceSub, Int.reduceMul, cond_true, cond_false, List.toList_toArray, Option.map_some, Option.map_none, Option.some.injEq, List.cons_append, List.nil_append, List.length_cons, List.length_nil, List.getD_cons_zero, List.getD_cons_succ]
  exact hR
set_option maxRecDepth 20000 in
set_option maxHeartbeats 4000000 in
theorem tRead_cps (S : List UInt8) (hS : S.length ≤ maxLen) (w : World) (R : Ending → World → Prop) (hR : ∀ w', Mod [] w w' → R (.returned (rd2V (readS S))) w') :
    Calls Try.prog 53 #[.string ⟨S.toArray⟩] w R := by
  have hS' := hS
  unfold maxLen at hS
  have hl := walkS_len S 16 1 0 (by omega)
  unfold readS at hR
  refine calls_go 4000 okT Try.func53 rfl (rs := [.cell 2 3, .cell 3 27]) rfl Try.ntmps53 (args := [.string ⟨S.toArray⟩]) ?_
  simp (config := { maxSteps := 1000000 }) (disch := first | omega | (simp only [sizeAlloc, sizeDrew, sizeSet, sizePut] <;> omega) | fail) only [GS1, GS2, GS3, GS4, GS5, GS6, GS7, GS8, GS9, GS10, GS11, TT_eq, TTl, Nat.reduceAdd, Nat.reduceMul, Nat.reduceSub, Nat.reduceDiv, Nat.reduceMod, Nat.reducePow, Nat.reduceEqDiff, ↓reduceIte, reduceCtorEq, true_and, and_true, and_self, false_and, and_false, Int.reduceToNat, Int.reduceAdd, Int.reduceSub, Int.reduceMul, cond_true, cond_false, List.toList_toArray, Option.map_some, Option.map_none, Option.some.injEq, List.cons_append, List.nil_append, List.length_cons, List.length_nil, List.getD_cons_zero, List.getD_cons_succ]
  refine hold_defer rfl rfl (hold_ops okT (rs := [.cell 2 3, .cell 3 27]) rfl ?_)
  simp (config := { maxSteps := 1000000 }) (disch := first | omega | (simp only [sizeAlloc, sizeDrew, sizeSet, sizePut] <;> omega) | fail) only [GS1, GS2, GS3, GS4, GS5, GS6, GS7, GS8, GS9, GS10, GS11, TT_eq, TTl, Nat.reduceAdd, Nat.reduceMul, Nat.reduceSub, Nat.reduceDiv, Nat.reduceMod, Nat.reducePow, Nat.reduceEqDiff, ↓reduceIte, reduceCtorEq, true_and, and_true, and_self, false_and, and_false, Int.reduceToNat, Int.reduceAdd, Int.reduceSub, Int.reduceMul, cond_true, cond_false, List.toList_toArray, Option.map_some, Option.map_none, Option.some.injEq, List.cons_append, List.nil_append, List.length_cons, List.length_nil, List.getD_cons_zero, List.getD_cons_succ]
  refine ⟨fok72, tWalk_cps S hS' 73 #[] fok73 (fun _ w' => Mod [] ((w.alloc (.cells #[.int .i64 0] 3)).alloc (.cells #[.int .i64 0] 27)) w') (fun _ _ _ h hM => h.trans hM (by simp)) (walkS S 16 1 0).2.2 (fun l a b d w' R' _ _ _ _ hl hR' => readT_cps _ _ _ _ _ (hR' _ hl)) 16 1 0 [] _ _ (by omega) (by omega) ⟨[], by simp⟩ (Mod.refl _ _) fun w1 hM => ?_⟩
  generalize walkS S 16 1 0 = X at hR hl ⊢
  obtain ⟨m, e, l⟩ := X
  simp only at hR hl
  unfold wkE
  simp only
  have hA1 : w1.heap[w.heap.size]? = some (.cells #[.int .i64 0] 3 (0, 0)) := hM.get (by (simp only [heapA, sizeAlloc]; repeat (first | rfl | rw [if_neg (by omega)] | rw [if_pos (by omega)]))) (by simp)
  have hB1 : w1.heap[w.heap.size + 1]? = some (.cells #[.int .i64 0] 27 (0, 0)) := hM.get (by (simp only [heapA, sizeAlloc]; repeat (first | rfl | rw [if_neg (by omega)] | rw [if_pos (by omega)]))) (by simp)
  have hM1 : Mod [] w w1 := (((Mod.refl [] w).alloc _).alloc _).trans hM (by simp)
  have hca : w1.cell? ⟨w.heap.size, 0, none⟩ = some (.int .i64 0) := by rw [cellOf hA1]; rfl
  have hcb : w1.cell? ⟨w.heap.size + 1, 0, none⟩ = some (.int .i64 0) := by rw [cellOf hB1]; rfl
  have hfa := frozenOf (o := 0) hA1
  have hfb := frozenOf (o := 0) hB1
  have hne : w.heap.size ≠ w.heap.size + 1 := by omega
  by_cases he : e = 0
  · subst he
    have hl := hl rfl
    rw [if_pos rfl] at hR ⊢
    refine .inl ⟨_, rfl, hold_ops okT (rs := [.cell 2 3, .cell 3 27]) rfl ?_⟩
    by_cases h : 16384 < m
    · rw [if_pos h] at hR
      simp (config := { maxSteps := 1000000 }) (disch := first | omega | (simp only [sizeAlloc, sizeDrew, sizeSet, sizePut] <;> omega) | fail) only [GS1, GS2, GS3, GS4, GS5, GS6, GS7, GS8, GS9, GS10, GS11, TT_eq, TTl, Nat.reduceAdd, Nat.reduceMul, Nat.reduceSub, Nat.reduceDiv, Nat.reduceMod, Nat.reducePow, Nat.reduceEqDiff, ↓reduceIte, reduceCtorEq, true_and, and_true, and_self, false_and, and_false, Int.reduceToNat, Int.reduceAdd, Int.reduceSub, Int.reduceMul, cond_true, cond_false, List.toList_toArray, Option.map_some, Option.map_none, Option.some.injEq, List.cons_append, List.nil_append, List.length_cons, List.length_nil, List.getD_cons_zero, List.getD_cons_succ, hca, hcb, hfa, hfb]
      refine ⟨fok74, must_cps 5 _ _ (fun h => absurd h (by decide)) fun _ => .inr ⟨_, rfl, hold_ex okT (rs := [.cell 2 3, .cell 3 27]) rfl ?_⟩⟩
      simp (config := { maxSteps := 1000000 }) (disch := first | omega | (simp only [sizeAlloc, sizeDrew, sizeSet, sizePut] <;> omega) | fail) only [GS1, GS2, GS3, GS4, GS5, GS6, GS7, GS8, GS9, GS10, GS11, TT_eq, TTl, Nat.reduceAdd, Nat.reduceMul, Nat.reduceSub, Nat.reduceDiv, Nat.reduceMod, Nat.reducePow, Nat.reduceEqDiff, ↓reduceIte, reduceCtorEq, true_and, and_true, and_self, false_and, and_false, Int.reduceToNat, Int.reduceAdd, Int.reduceSub, Int.reduceMul, cond_true, cond_false, List.toList_toArray, Option.map_some, Option.map_none, Option.some.injEq, List.cons_append, List.nil_append, List.length_cons, List.length_nil, List.getD_cons_zero, List.getD_cons_succ]
      refine hold_leave (rs := [.cell 2 3, .cell 3 27]) okT rfl fok70 (.inr (.inr ⟨_, rfl⟩)) (readD_pan w.heap.size (w.heap.size + 1) 5 _ _ _ _ _ hne (heapSet hA1) (heapSetNe hB1 hne.symm) _ fun w2 ha hb hM2 => .inl ⟨_, rfl, ?_⟩)
      have hc1 : w2.cell? ⟨w.heap.size, 0, none⟩ = some (.int .i64 0) := by rw [cellOf ha]; rfl
      have hc2 : w2.cell? ⟨w.heap.size + 1, 0, none⟩ = some (.int .i64 5) := by rw [cellOf hb]; rfl
      show lastW TT [.cell 2 3, .cell 3 27] R _ .returning w2
      simp (config := { maxSteps := 1000000 }) (disch := first | omega | (simp only [sizeAlloc, sizeDrew, sizeSet, sizePut] <;> omega) | fail) only [GS1, GS2, GS3, GS4, GS5, GS6, GS7, GS8, GS9, GS10, GS11, TT_eq, TTl, Nat.reduceAdd, Nat.reduceMul, Nat.reduceSub, Nat.reduceDiv, Nat.reduceMod, Nat.reducePow, Nat.reduceEqDiff, ↓reduceIte, reduceCtorEq, true_and, and_true, and_self, false_and, and_false, Int.reduceToNat, Int.reduceAdd, Int.reduceSub, Int.reduceMul, cond_true, cond_false, List.toList_toArray, Option.map_some, Option.map_none, Option.some.injEq, List.cons_append, List.nil_append, List.length_cons, List.length_nil, List.getD_cons_zero, List.getD_cons_succ, lastW_ret]
      show ∃ v, w2.cell? ⟨w.heap.size, 0, none⟩ = some v ∧ ∃ u, w2.cell? ⟨w.heap.size + 1, 0, none⟩ = some u ∧ R (.returned (.tuple #[v, u])) w2
      exact ⟨_, hc1, _, hc2, hR _ ((hM1.set (p := ⟨w.heap.size, 0, none⟩) (.inr (Nat.le_refl _)) _).trans hM2 (by intro x hx; simp at hx; right; omega))⟩
    · rw [if_neg h] at hR
      simp (config := { maxSteps := 1000000 }) (disch := first | omega | (simp only [sizeAlloc, sizeDrew, sizeSet, sizePut] <;> omega) | fail) only [GS1, GS2, GS3, GS4, GS5, GS6, GS7, GS8, GS9, GS10, GS11, TT_eq, TTl, Nat.reduceAdd, Nat.reduceMul, Nat.reduceSub, Nat.reduceDiv, Nat.reduceMod, Nat.reducePow, Nat.reduceEqDiff, ↓reduceIte, reduceCtorEq, true_and, and_true, and_self, false_and, and_false, Int.reduceToNat, Int.reduceAdd, Int.reduceSub, Int.reduceMul, cond_true, cond_false, List.toList_toArray, Option.map_some, Option.map_none, Option.some.injEq, List.cons_append, List.nil_append, List.length_cons, List.length_nil, List.getD_cons_zero, List.getD_cons_succ, hca, hcb, hfa, hfb]
      refine hold_leave (rs := [.cell 2 3, .cell 3 27]) okT rfl fok70 (.inr (.inl rfl)) (readD_ret _ _ _ _ (.inl ⟨_, rfl, ?_⟩))
      show lastW TT [.cell 2 3, .cell 3 27] R _ .returning _
      have hs1 := heapSet (v := .int .i64 0) (o := 0) (heapSetNe (j := 0) (u := .int .i64 m) (heapSetNe (j := 0) (u := .int .i64 m) hB1 hne.symm) hne.symm)
      have hs2 := heapSetNe (j := 0) (u := .int .i64 0) (heapSet (v := .int .i64 m) (o := 0) (heapSet (v := .int .i64 m) (o := 0) hA1)) hne
      have hMM := (((hM1.set (p := ⟨w.heap.size, 0, none⟩) (.inr (Nat.le_refl _)) (.int .i64 m)).set (p := ⟨w.heap.size, 0, none⟩) (.inr (Nat.le_refl _)) (.int .i64 m)).set (p := ⟨w.heap.size + 1, 0, none⟩) (.inr (Nat.le_succ _)) (.int .i64 0))
      generalize ((w1.setCell ⟨w.heap.size, 0, none⟩ (.int .i64 m)).setCell ⟨w.heap.size, 0, none⟩ (.int .i64 m)).setCell ⟨w.heap.size + 1, 0, none⟩ (.int .i64 0) = w2 at hs1 hs2 hMM ⊢
      have hc1 : w2.cell? ⟨w.heap.size, 0, none⟩ = some (.int .i64 m) := by rw [cellOf hs2]; rfl
      have hc2 : w2.cell? ⟨w.heap.size + 1, 0, none⟩ = some (.int .i64 0) := by rw [cellOf hs1]; rfl
      simp (config := { maxSteps := 1000000 }) (disch := first | omega | (simp only [sizeAlloc, sizeDrew, sizeSet, sizePut] <;> omega) | fail) only [GS1, GS2, GS3, GS4, GS5, GS6, GS7, GS8, GS9, GS10, GS11, TT_eq, TTl, Nat.reduceAdd, Nat.reduceMul, Nat.reduceSub, Nat.reduceDiv, Nat.reduceMod, Nat.reducePow, Nat.reduceEqDiff, ↓reduceIte, reduceCtorEq, true_and, and_true, and_self, false_and, and_false, Int.reduceToNat, Int.reduceAdd, Int.reduceSub, Int.reduceMul, cond_true, cond_false, List.toList_toArray, Option.map_some, Option.map_none, Option.some.injEq, List.cons_append, List.nil_append, List.length_cons, List.length_nil, List.getD_cons_zero, List.getD_cons_succ, lastW_ret]
      show ∃ v, w2.cell? ⟨w.heap.size, 0, none⟩ = some v ∧ ∃ u, w2.cell? ⟨w.heap.size + 1, 0, none⟩ = some u ∧ R (.returned (.tuple #[v, u])) w2
      exact ⟨_, hc1, _, hc2, hR _ hMM⟩
  · rw [if_neg he] at hR ⊢
    refine .inr ⟨_, rfl, hold_ex okT (rs := [.cell 2 3, .cell 3 27]) rfl ?_⟩
    simp (config := { maxSteps := 1000000 }) (disch := first | omega | (simp only [sizeAlloc, sizeDrew, sizeSet, sizePut] <;> omega) | fail) only [GS1, GS2, GS3, GS4, GS5, GS6, GS7, GS8, GS9, GS10, GS11, TT_eq, TTl, Nat.reduceAdd, Nat.reduceMul, Nat.reduceSub, Nat.reduceDiv, Nat.reduceMod, Nat.reducePow, Nat.reduceEqDiff, ↓reduceIte, reduceCtorEq, true_and, and_true, and_self, false_and, and_false, Int.reduceToNat, Int.reduceAdd, Int.reduceSub, Int.reduceMul, cond_true, cond_false, List.toList_toArray, Option.map_some, Option.map_none, Option.some.injEq, List.cons_append, List.nil_append, List.length_cons, List.length_nil, List.getD_cons_zero, List.getD_cons_succ]
    refine hold_leave (rs := [.cell 2 3, .cell 3 27]) okT rfl fok70 (.inr (.inr ⟨_, rfl⟩)) (readD_pan w.heap.size (w.heap.size + 1) e _ _ _ _ _ hne hA1 hB1 _ fun w2 ha hb hM2 => .inl ⟨_, rfl, ?_⟩)
    have hc1 : w2.cell? ⟨w.heap.size, 0, none⟩ = some (.int .i64 0) := by rw [cellOf ha]; rfl
    have hc2 : w2.cell? ⟨w.heap.size + 1, 0, none⟩ = some (.int .i64 e) := by rw [cellOf hb]; rfl
    show lastW TT [.cell 2 3, .cell 3 27] R _ .returning w2
    simp (config := { maxSteps := 1000000 }) (disch := first | omega | (simp only [sizeAlloc, sizeDrew, sizeSet, sizePut] <;> omega) | fail) only [GS1, GS2, GS3, GS4, GS5, GS6, GS7, GS8, GS9, GS10, GS11, TT_eq, TTl, Nat.reduceAdd, Nat.reduceMul, Nat.reduceSub, Nat.reduceDiv, Nat.reduceMod, Nat.reducePow, Nat.reduceEqDiff, ↓reduceIte, reduceCtorEq, true_and, and_true, and_self, false_and, and_false, Int.reduceToNat, Int.reduceAdd, Int.reduceSub, Int.reduceMul, cond_true, cond_false, List.toList_toArray, Option.map_some, Option.map_none, Option.some.injEq, List.cons_append, List.nil_append, List.length_cons, List.length_nil, List.getD_cons_zero, List.getD_cons_succ, lastW_ret]
    show ∃ v, w2.cell? ⟨w.heap.size, 0, none⟩ = some v ∧ ∃ u, w2.cell? ⟨w.heap.size + 1, 0, none⟩ = some u ∧ R (.returned (.tuple #[v, u])) w2
    exact ⟨_, hc1, _, hc2, hR _ (hM1.trans hM2 (by intro x hx; simp at hx; right; omega))⟩
end Go.Proofs.Yticoollhaachfaa
