/-
  The law TermBack (walk).
-/
import Derived.Test.YtfobkimmpiahjaaLaw2
import Derived.Test.YtfobkimmpiahjaaSwt2
set_option linter.unusedSimpArgs false
set_option linter.unusedVariables false
namespace Go.Proofs.Ytfobkimmpiahjaa
open Go Go.Wk Go.RowKit
attribute [local irreducible] go Hold
open Go.Lib
theorem swapS_err (S F T : List UInt8) : (swapS S F T).2 = 0 ∨ ((swapS S F T).2 = 5 ∧ checkS S = 0 ∧ checkS F = 0 ∧ checkS T = 0) ∨ swapS S F T = ([], 2) := by
  unfold swapS
  split
  · rename_i h
    split
    · exact .inr (.inl ⟨rfl, h⟩)
    · split
      · exact .inl rfl
      · exact .inr (.inl ⟨rfl, h⟩)
  · exact .inr (.inr rfl)
theorem swapS_len {S F T : List UInt8} {x : List UInt8} (h : swapS S F T = (x, 0)) : checkS x = 0 := by
  unfold swapS at h
  split at h
  · split at h
    · simp at h
    · split at h
      · rename_i hc
        simp only [Prod.mk.injEq, and_true] at h
        rw [h] at hc; exact hc
      · simp at h
  · simp at h
set_option maxRecDepth 20000 in
set_option maxHeartbeats 40000000 in
theorem back_cps (t f T : List UInt8) (w : World) (R : Ending → World → Prop) (ht : t.length ≤ maxLen) (hf : f.length ≤ maxLen) (hT : T.length ≤ maxLen) (hR : ∀ w', Mod [] w w' → R (.returned (.bool true)) w') :
    Calls Try.prog 4 #[.string ⟨t.toArray⟩, .string ⟨f.toArray⟩, .string ⟨T.toArray⟩] w R := by
  refine calls_go 4000 okT Try.func4 rfl (rs := [.tmp 6]) rfl Try.ntmps4 (args := [.string ⟨t.toArray⟩, .string ⟨f.toArray⟩, .string ⟨T.toArray⟩]) ?_
  simp (config := { maxSteps := 1000000 }) (disch := first | omega | (simp only [sizeAlloc, sizeDrew, sizeSet, sizePut] <;> omega) | fail) only [GS1, GS2, GS3, GS4, GS5, GS6, GS7, GS8, GS9, GS10, GS11, TT_eq, TTl, Nat.reduceAdd, Nat.reduceMul, Nat.reduceSub, Nat.reduceDiv, Nat.reduceMod, Nat.reducePow, Nat.reduceEqDiff, ↓reduceIte, reduceCtorEq, true_and, and_true, and_self, false_and, and_false, Int.reduceToNat, Int.reduceAdd, Int.reduceSub, Int.reduceMul, cond_true, cond_false, List.toList_toArray, Option.map_some, Option.map_none, Option.some.injEq, List.cons_append, List.nil_append, List.length_cons, List.length_nil, List.getD_cons_zero, List.getD_cons_succ]
  have hr3 := Rd.lit (w := w) (size := 1) (n := 3) (e := 9) (xs := [t, f, T].map strV) rfl
  refine ⟨fok6, Long_cps _ [t, f, T] _ _ (by simp) (by simp [ht, hf, hT]) hr3 (.inl ⟨_, rfl, hold_ops okT (rs := [.tmp 6]) rfl ?_⟩)⟩
  have hM0 := (Mod.refl [] w).alloc (.cells ([t, f, T].map strV).toArray 9)
  clear hr3
  by_cases h2 : longS [t, f, T] = true
  · rw [h2]
    simp (config := { maxSteps := 1000000 }) (disch := first | omega | (simp only [sizeAlloc, sizeDrew, sizeSet, sizePut] <;> omega) | fail) only [GS1, GS2, GS3, GS4, GS5, GS6, GS7, GS8, GS9, GS10, GS11, TT_eq, TTl, Nat.reduceAdd, Nat.reduceMul, Nat.reduceSub, Nat.reduceDiv, Nat.reduceMod, Nat.reducePow, Nat.reduceEqDiff, ↓reduceIte, reduceCtorEq, true_and, and_true, and_self, false_and, and_false, Int.reduceToNat, Int.reduceAdd, Int.reduceSub, Int.reduceMul, cond_true, cond_false, List.toList_toArray, Option.map_some, Option.map_none, Option.some.injEq, List.cons_append, List.nil_append, List.length_cons, List.length_nil, List.getD_cons_zero, List.getD_cons_succ]
    refine ⟨fok7, alive_cps _ _ fun wz hMz => .inl ⟨_, rfl, hold_ops okT (rs := [.tmp 6]) rfl ?_⟩⟩
    simp (config := { maxSteps := 1000000 }) (disch := first | omega | (simp only [sizeAlloc, sizeDrew, sizeSet, sizePut] <;> omega) | fail) only [GS1, GS2, GS3, GS4, GS5, GS6, GS7, GS8, GS9, GS10, GS11, TT_eq, TTl, Nat.reduceAdd, Nat.reduceMul, Nat.reduceSub, Nat.reduceDiv, Nat.reduceMod, Nat.reducePow, Nat.reduceEqDiff, ↓reduceIte, reduceCtorEq, true_and, and_true, and_self, false_and, and_false, Int.reduceToNat, Int.reduceAdd, Int.reduceSub, Int.reduceMul, cond_true, cond_false, List.toList_toArray, Option.map_some, Option.map_none, Option.some.injEq, List.cons_append, List.nil_append, List.length_cons, List.length_nil, List.getD_cons_zero, List.getD_cons_succ]
    exact hR _ (hM0.trans hMz (by simp))
  · have h2 : longS [t, f, T] = false := by simpa using h2
    rw [h2]
    simp (config := { maxSteps := 1000000 }) (disch := first | omega | (simp only [sizeAlloc, sizeDrew, sizeSet, sizePut] <;> omega) | fail) only [GS1, GS2, GS3, GS4, GS5, GS6, GS7, GS8, GS9, GS10, GS11, TT_eq, TTl, Nat.reduceAdd, Nat.reduceMul, Nat.reduceSub, Nat.reduceDiv, Nat.reduceMod, Nat.reducePow, Nat.reduceEqDiff, ↓reduceIte, reduceCtorEq, true_and, and_true, and_self, false_and, and_false, Int.reduceToNat, Int.reduceAdd, Int.reduceSub, Int.reduceMul, cond_true, cond_false, List.toList_toArray, Option.map_some, Option.map_none, Option.some.injEq, List.cons_append, List.nil_append, List.length_cons, List.length_nil, List.getD_cons_zero, List.getD_cons_succ]
    refine ⟨fok23, tSwap_cps t f T ht hf hT _ _ fun w1 hN1 => .inl ⟨_, rfl, hold_ops okT (rs := [.tmp 6]) rfl ?_⟩⟩
    have hM1 := hM0.trans hN1 (by simp)
    generalize hX : swapS t f T = X
    obtain ⟨s, e⟩ := X
    unfold stV
    simp (config := { maxSteps := 1000000 }) (disch := first | omega | (simp only [sizeAlloc, sizeDrew, sizeSet, sizePut] <;> omega) | fail) only [GS1, GS2, GS3, GS4, GS5, GS6, GS7, GS8, GS9, GS10, GS11, TT_eq, TTl, Nat.reduceAdd, Nat.reduceMul, Nat.reduceSub, Nat.reduceDiv, Nat.reduceMod, Nat.reducePow, Nat.reduceEqDiff, ↓reduceIte, reduceCtorEq, true_and, and_true, and_self, false_and, and_false, Int.reduceToNat, Int.reduceAdd, Int.reduceSub, Int.reduceMul, cond_true, cond_false, List.toList_toArray, Option.map_some, Option.map_none, Option.some.injEq, List.cons_append, List.nil_append, List.length_cons, List.length_nil, List.getD_cons_zero, List.getD_cons_succ]
    refine ⟨fok24, tCheck_cps t ht _ _ fun w2 hN2 => .inl ⟨_, rfl, hold_ops okT (rs := [.tmp 6]) rfl ?_⟩⟩
    have hM2 := hM1.trans hN2 (by simp)
    by_cases c1 : checkS t = 0
    · rw [c1]
      simp (config := { maxSteps := 1000000 }) (disch := first | omega | (simp only [sizeAlloc, sizeDrew, sizeSet, sizePut] <;> omega) | fail) only [GS1, GS2, GS3, GS4, GS5, GS6, GS7, GS8, GS9, GS10, GS11, TT_eq, TTl, Nat.reduceAdd, Nat.reduceMul, Nat.reduceSub, Nat.reduceDiv, Nat.reduceMod, Nat.reducePow, Nat.reduceEqDiff, ↓reduceIte, reduceCtorEq, true_and, and_true, and_self, false_and, and_false, Int.reduceToNat, Int.reduceAdd, Int.reduceSub, Int.reduceMul, cond_true, cond_false, List.toList_toArray, Option.map_some, Option.map_none, Option.some.injEq, List.cons_append, List.nil_append, List.length_cons, List.length_nil, List.getD_cons_zero, List.getD_cons_succ]
      refine ⟨fok24, tCheck_cps f hf _ _ fun w3 hN3 => .inl ⟨_, rfl, hold_ops okT (rs := [.tmp 6]) rfl ?_⟩⟩
      have hM3 := hM2.trans hN3 (by simp)
      by_cases c2 : checkS f = 0
      · rw [c2]
        simp (config := { maxSteps := 1000000 }) (disch := first | omega | (simp only [sizeAlloc, sizeDrew, sizeSet, sizePut] <;> omega) | fail) only [GS1, GS2, GS3, GS4, GS5, GS6, GS7, GS8, GS9, GS10, GS11, TT_eq, TTl, Nat.reduceAdd, Nat.reduceMul, Nat.reduceSub, Nat.reduceDiv, Nat.reduceMod, Nat.reducePow, Nat.reduceEqDiff, ↓reduceIte, reduceCtorEq, true_and, and_true, and_self, false_and, and_false, Int.reduceToNat, Int.reduceAdd, Int.reduceSub, Int.reduceMul, cond_true, cond_false, List.toList_toArray, Option.map_some, Option.map_none, Option.some.injEq, List.cons_append, List.nil_append, List.length_cons, List.length_nil, List.getD_cons_zero, List.getD_cons_succ]
        refine ⟨fok24, tCheck_cps T hT _ _ fun w4 hN4 => .inl ⟨_, rfl, hold_ops okT (rs := [.tmp 6]) rfl ?_⟩⟩
        have hM4 := hM3.trans hN4 (by simp)
        by_cases c3 : checkS T = 0
        · rw [c3]
          rcases swapS_err t f T with he | ⟨he, _⟩ | he
          · rw [hX] at he
            simp only at he
            subst he
            have hs0 := swapS_len hX
            have hsl : s.length ≤ maxLen := by have := (check0 hs0).2.2.1; unfold maxLen; omega
            obtain ⟨p1, p2, p3⟩ := back_plain c1 c2 c3 hX
            simp (config := { maxSteps := 1000000 }) (disch := first | omega | (simp only [sizeAlloc, sizeDrew, sizeSet, sizePut] <;> omega) | fail) only [GS1, GS2, GS3, GS4, GS5, GS6, GS7, GS8, GS9, GS10, GS11, TT_eq, TTl, Nat.reduceAdd, Nat.reduceMul, Nat.reduceSub, Nat.reduceDiv, Nat.reduceMod, Nat.reducePow, Nat.reduceEqDiff, ↓reduceIte, reduceCtorEq, true_and, and_true, and_self, false_and, and_false, Int.reduceToNat, Int.reduceAdd, Int.reduceSub, Int.reduceMul, cond_true, cond_false, List.toList_toArray, Option.map_some, Option.map_none, Option.some.injEq, List.cons_append, List.nil_append, List.length_cons, List.length_nil, List.getD_cons_zero, List.getD_cons_succ]
            refine ⟨fok25, tHas_cps t f ht hf _ _ fun w5 hN5 => .inl ⟨_, rfl, hold_ops okT (rs := [.tmp 6]) rfl ?_⟩⟩
            have hM5 := hM4.trans hN5 (by simp)
            by_cases b1 : hasS t f = true
            · rw [b1]
              simp (config := { maxSteps := 1000000 }) (disch := first | omega | (simp only [sizeAlloc, sizeDrew, sizeSet, sizePut] <;> omega) | fail) only [GS1, GS2, GS3, GS4, GS5, GS6, GS7, GS8, GS9, GS10, GS11, TT_eq, TTl, Nat.reduceAdd, Nat.reduceMul, Nat.reduceSub, Nat.reduceDiv, Nat.reduceMod, Nat.reducePow, Nat.reduceEqDiff, ↓reduceIte, reduceCtorEq, true_and, and_true, and_self, false_and, and_false, Int.reduceToNat, Int.reduceAdd, Int.reduceSub, Int.reduceMul, cond_true, cond_false, List.toList_toArray, Option.map_some, Option.map_none, Option.some.injEq, List.cons_append, List.nil_append, List.length_cons, List.length_nil, List.getD_cons_zero, List.getD_cons_succ]
              refine ⟨fok25, tHas_cps t T ht hT _ _ fun w6 hN6 => .inl ⟨_, rfl, hold_ops okT (rs := [.tmp 6]) rfl ?_⟩⟩
              have hM6 := hM5.trans hN6 (by simp)
              by_cases b2 : hasS t T = true
              · rw [b2]
                simp (config := { maxSteps := 1000000 }) (disch := first | omega | (simp only [sizeAlloc, sizeDrew, sizeSet, sizePut] <;> omega) | fail) only [GS1, GS2, GS3, GS4, GS5, GS6, GS7, GS8, GS9, GS10, GS11, TT_eq, TTl, Nat.reduceAdd, Nat.reduceMul, Nat.reduceSub, Nat.reduceDiv, Nat.reduceMod, Nat.reducePow, Nat.reduceEqDiff, ↓reduceIte, reduceCtorEq, true_and, and_true, and_self, false_and, and_false, Int.reduceToNat, Int.reduceAdd, Int.reduceSub, Int.reduceMul, cond_true, cond_false, List.toList_toArray, Option.map_some, Option.map_none, Option.some.injEq, List.cons_append, List.nil_append, List.length_cons, List.length_nil, List.getD_cons_zero, List.getD_cons_succ]
                refine ⟨fok25, tHas_cps s T hsl hT _ _ fun w7 hN7 => .inl ⟨_, rfl, hold_ops okT (rs := [.tmp 6]) rfl ?_⟩⟩
                have hM7 := hM6.trans hN7 (by simp)
                rw [p2 b1 b2]
                simp (config := { maxSteps := 1000000 }) (disch := first | omega | (simp only [sizeAlloc, sizeDrew, sizeSet, sizePut] <;> omega) | fail) only [GS1, GS2, GS3, GS4, GS5, GS6, GS7, GS8, GS9, GS10, GS11, TT_eq, TTl, Nat.reduceAdd, Nat.reduceMul, Nat.reduceSub, Nat.reduceDiv, Nat.reduceMod, Nat.reducePow, Nat.reduceEqDiff, ↓reduceIte, reduceCtorEq, true_and, and_true, and_self, false_and, and_false, Int.reduceToNat, Int.reduceAdd, Int.reduceSub, Int.reduceMul, cond_true, cond_false, List.toList_toArray, Option.map_some, Option.map_none, Option.some.injEq, List.cons_append, List.nil_append, List.length_cons, List.length_nil, List.getD_cons_zero, List.getD_cons_succ]
                refine ⟨fok7, alive_cps _ _ fun wz hMz => .inl ⟨_, rfl, hold_ops okT (rs := [.tmp 6]) rfl ?_⟩⟩
                simp (config := { maxSteps := 1000000 }) (disch := first | omega | (simp only [sizeAlloc, sizeDrew, sizeSet, sizePut] <;> omega) | fail) only [GS1, GS2, GS3, GS4, GS5, GS6, GS7, GS8, GS9, GS10, GS11, TT_eq, TTl, Nat.reduceAdd, Nat.reduceMul, Nat.reduceSub, Nat.reduceDiv, Nat.reduceMod, Nat.reducePow, Nat.reduceEqDiff, ↓reduceIte, reduceCtorEq, true_and, and_true, and_self, false_and, and_false, Int.reduceToNat, Int.reduceAdd, Int.reduceSub, Int.reduceMul, cond_true, cond_false, List.toList_toArray, Option.map_some, Option.map_none, Option.some.injEq, List.cons_append, List.nil_append, List.length_cons, List.length_nil, List.getD_cons_zero, List.getD_cons_succ]
                exact hR _ (hM7.trans hMz (by simp))
              · have b2 : hasS t T = false := by simpa using b2
                obtain ⟨q1, q2, q3⟩ := p3 b1 b2
                rw [b2]
                simp (config := { maxSteps := 1000000 }) (disch := first | omega | (simp only [sizeAlloc, sizeDrew, sizeSet, sizePut] <;> omega) | fail) only [GS1, GS2, GS3, GS4, GS5, GS6, GS7, GS8, GS9, GS10, GS11, TT_eq, TTl, Nat.reduceAdd, Nat.reduceMul, Nat.reduceSub, Nat.reduceDiv, Nat.reduceMod, Nat.reducePow, Nat.reduceEqDiff, ↓reduceIte, reduceCtorEq, true_and, and_true, and_self, false_and, and_false, Int.reduceToNat, Int.reduceAdd, Int.reduceSub, Int.reduceMul, cond_true, cond_false, List.toList_toArray, Option.map_some, Option.map_none, Option.some.injEq, List.cons_append, List.nil_append, List.length_cons, List.length_nil, List.getD_cons_zero, List.getD_cons_succ]
                refine ⟨fok23, tSwap_cps s T f hsl hT hf _ _ fun w7 hN7 => .inl ⟨_, rfl, hold_ops okT (rs := [.tmp 6]) rfl ?_⟩⟩
                have hM7 := hM6.trans hN7 (by simp)
                rw [q1]
                unfold stV
                simp (config := { maxSteps := 1000000 }) (disch := first | omega | (simp only [sizeAlloc, sizeDrew, sizeSet, sizePut] <;> omega) | fail) only [GS1, GS2, GS3, GS4, GS5, GS6, GS7, GS8, GS9, GS10, GS11, TT_eq, TTl, Nat.reduceAdd, Nat.reduceMul, Nat.reduceSub, Nat.reduceDiv, Nat.reduceMod, Nat.reducePow, Nat.reduceEqDiff, ↓reduceIte, reduceCtorEq, true_and, and_true, and_self, false_and, and_false, Int.reduceToNat, Int.reduceAdd, Int.reduceSub, Int.reduceMul, cond_true, cond_false, List.toList_toArray, Option.map_some, Option.map_none, Option.some.injEq, List.cons_append, List.nil_append, List.length_cons, List.length_nil, List.getD_cons_zero, List.getD_cons_succ, eq_self]
                refine ⟨fok25, tHas_cps s T hsl hT _ _ fun w8 hN8 => .inl ⟨_, rfl, hold_ops okT (rs := [.tmp 6]) rfl ?_⟩⟩
                have hM8 := hM7.trans hN8 (by simp)
                rw [q2]
                simp (config := { maxSteps := 1000000 }) (disch := first | omega | (simp only [sizeAlloc, sizeDrew, sizeSet, sizePut] <;> omega) | fail) only [GS1, GS2, GS3, GS4, GS5, GS6, GS7, GS8, GS9, GS10, GS11, TT_eq, TTl, Nat.reduceAdd, Nat.reduceMul, Nat.reduceSub, Nat.reduceDiv, Nat.reduceMod, Nat.reducePow, Nat.reduceEqDiff, ↓reduceIte, reduceCtorEq, true_and, and_true, and_self, false_and, and_false, Int.reduceToNat, Int.reduceAdd, Int.reduceSub, Int.reduceMul, cond_true, cond_false, List.toList_toArray, Option.map_some, Option.map_none, Option.some.injEq, List.cons_append, List.nil_append, List.length_cons, List.length_nil, List.getD_cons_zero, List.getD_cons_succ]
                refine ⟨fok25, tHas_cps T f hT hf _ _ fun w9 hN9 => .inl ⟨_, rfl, hold_ops okT (rs := [.tmp 6]) rfl ?_⟩⟩
                have hM9 := hM8.trans hN9 (by simp)
                by_cases b3 : hasS T f = true
                · rw [b3]
                  simp (config := { maxSteps := 1000000 }) (disch := first | omega | (simp only [sizeAlloc, sizeDrew, sizeSet, sizePut] <;> omega) | fail) only [GS1, GS2, GS3, GS4, GS5, GS6, GS7, GS8, GS9, GS10, GS11, TT_eq, TTl, Nat.reduceAdd, Nat.reduceMul, Nat.reduceSub, Nat.reduceDiv, Nat.reduceMod, Nat.reducePow, Nat.reduceEqDiff, ↓reduceIte, reduceCtorEq, true_and, and_true, and_self, false_and, and_false, Int.reduceToNat, Int.reduceAdd, Int.reduceSub, Int.reduceMul, cond_true, cond_false, List.toList_toArray, Option.map_some, Option.map_none, Option.some.injEq, List.cons_append, List.nil_append, List.length_cons, List.length_nil, List.getD_cons_zero, List.getD_cons_succ]
                  refine ⟨fok7, alive_cps _ _ fun wz hMz => .inl ⟨_, rfl, hold_ops okT (rs := [.tmp 6]) rfl ?_⟩⟩
                  simp (config := { maxSteps := 1000000 }) (disch := first | omega | (simp only [sizeAlloc, sizeDrew, sizeSet, sizePut] <;> omega) | fail) only [GS1, GS2, GS3, GS4, GS5, GS6, GS7, GS8, GS9, GS10, GS11, TT_eq, TTl, Nat.reduceAdd, Nat.reduceMul, Nat.reduceSub, Nat.reduceDiv, Nat.reduceMod, Nat.reducePow, Nat.reduceEqDiff, ↓reduceIte, reduceCtorEq, true_and, and_true, and_self, false_and, and_false, Int.reduceToNat, Int.reduceAdd, Int.reduceSub, Int.reduceMul, cond_true, cond_false, List.toList_toArray, Option.map_some, Option.map_none, Option.some.injEq, List.cons_append, List.nil_append, List.length_cons, List.length_nil, List.getD_cons_zero, List.getD_cons_succ]
                  exact hR _ (hM9.trans hMz (by simp))
                · have b3' : hasS T f = false := by simpa using b3
                  rw [b3']
                  simp (config := { maxSteps := 1000000 }) (disch := first | omega | (simp only [sizeAlloc, sizeDrew, sizeSet, sizePut] <;> omega) | fail) only [GS1, GS2, GS3, GS4, GS5, GS6, GS7, GS8, GS9, GS10, GS11, TT_eq, TTl, Nat.reduceAdd, Nat.reduceMul, Nat.reduceSub, Nat.reduceDiv, Nat.reduceMod, Nat.reducePow, Nat.reduceEqDiff, ↓reduceIte, reduceCtorEq, true_and, and_true, and_self, false_and, and_false, Int.reduceToNat, Int.reduceAdd, Int.reduceSub, Int.reduceMul, cond_true, cond_false, List.toList_toArray, Option.map_some, Option.map_none, Option.some.injEq, List.cons_append, List.nil_append, List.length_cons, List.length_nil, List.getD_cons_zero, List.getD_cons_succ]
                  refine ⟨fok25, tHas_cps s f hsl hf _ _ fun w10 hN10 => .inl ⟨_, rfl, hold_ops okT (rs := [.tmp 6]) rfl ?_⟩⟩
                  have hM10 := hM9.trans hN10 (by simp)
                  rw [q3.resolve_left b3]
                  simp (config := { maxSteps := 1000000 }) (disch := first | omega | (simp only [sizeAlloc, sizeDrew, sizeSet, sizePut] <;> omega) | fail) only [GS1, GS2, GS3, GS4, GS5, GS6, GS7, GS8, GS9, GS10, GS11, TT_eq, TTl, Nat.reduceAdd, Nat.reduceMul, Nat.reduceSub, Nat.reduceDiv, Nat.reduceMod, Nat.reducePow, Nat.reduceEqDiff, ↓reduceIte, reduceCtorEq, true_and, and_true, and_self, false_and, and_false, Int.reduceToNat, Int.reduceAdd, Int.reduceSub, Int.reduceMul, cond_true, cond_false, List.toList_toArray, Option.map_some, Option.map_none, Option.some.injEq, List.cons_append, List.nil_append, List.length_cons, List.length_nil, List.getD_cons_zero, List.getD_cons_succ]
                  refine ⟨fok7, alive_cps _ _ fun wz hMz => .inl ⟨_, rfl, hold_ops okT (rs := [.tmp 6]) rfl ?_⟩⟩
                  simp (config := { maxSteps := 1000000 }) (disch := first | omega | (simp only [sizeAlloc, sizeDrew, sizeSet, sizePut] <;> omega) | fail) only [GS1, GS2, GS3, GS4, GS5, GS6, GS7, GS8, GS9, GS10, GS11, TT_eq, TTl, Nat.reduceAdd, Nat.reduceMul, Nat.reduceSub, Nat.reduceDiv, Nat.reduceMod, Nat.reducePow, Nat.reduceEqDiff, ↓reduceIte, reduceCtorEq, true_and, and_true, and_self, false_and, and_false, Int.reduceToNat, Int.reduceAdd, Int.reduceSub, Int.reduceMul, cond_true, cond_false, List.toList_toArray, Option.map_some, Option.map_none, Option.some.injEq, List.cons_append, List.nil_append, List.length_cons, List.length_nil, List.getD_cons_zero, List.getD_cons_succ]
                  exact hR _ (hM10.trans hMz (by simp))
            · have b1 : hasS t f = false := by simpa using b1
              have e1 := p1 b1
              subst e1
              rw [b1]
              simp (config := { maxSteps := 1000000 }) (disch := first | omega | (simp only [sizeAlloc, sizeDrew, sizeSet, sizePut] <;> omega) | fail) only [GS1, GS2, GS3, GS4, GS5, GS6, GS7, GS8, GS9, GS10, GS11, TT_eq, TTl, Nat.reduceAdd, Nat.reduceMul, Nat.reduceSub, Nat.reduceDiv, Nat.reduceMod, Nat.reducePow, Nat.reduceEqDiff, ↓reduceIte, reduceCtorEq, true_and, and_true, and_self, false_and, and_false, Int.reduceToNat, Int.reduceAdd, Int.reduceSub, Int.reduceMul, cond_true, cond_false, List.toList_toArray, Option.map_some, Option.map_none, Option.some.injEq, List.cons_append, List.nil_append, List.length_cons, List.length_nil, List.getD_cons_zero, List.getD_cons_succ, eq_self]
              refine ⟨fok7, alive_cps _ _ fun wz hMz => .inl ⟨_, rfl, hold_ops okT (rs := [.tmp 6]) rfl ?_⟩⟩
              simp (config := { maxSteps := 1000000 }) (disch := first | omega | (simp only [sizeAlloc, sizeDrew, sizeSet, sizePut] <;> omega) | fail) only [GS1, GS2, GS3, GS4, GS5, GS6, GS7, GS8, GS9, GS10, GS11, TT_eq, TTl, Nat.reduceAdd, Nat.reduceMul, Nat.reduceSub, Nat.reduceDiv, Nat.reduceMod, Nat.reducePow, Nat.reduceEqDiff, ↓reduceIte, reduceCtorEq, true_and, and_true, and_self, false_and, and_false, Int.reduceToNat, Int.reduceAdd, Int.reduceSub, Int.reduceMul, cond_true, cond_false, List.toList_toArray, Option.map_some, Option.map_none, Option.some.injEq, List.cons_append, List.nil_append, List.length_cons, List.length_nil, List.getD_cons_zero, List.getD_cons_succ]
              exact hR _ (hM5.trans hMz (by simp))
          · rw [hX] at he
            simp only at he
            subst he
            simp (config := { maxSteps := 1000000 }) (disch := first | omega | (simp only [sizeAlloc, sizeDrew, sizeSet, sizePut] <;> omega) | fail) only [GS1, GS2, GS3, GS4, GS5, GS6, GS7, GS8, GS9, GS10, GS11, TT_eq, TTl, Nat.reduceAdd, Nat.reduceMul, Nat.reduceSub, Nat.reduceDiv, Nat.reduceMod, Nat.reducePow, Nat.reduceEqDiff, ↓reduceIte, reduceCtorEq, true_and, and_true, and_self, false_and, and_false, Int.reduceToNat, Int.reduceAdd, Int.reduceSub, Int.reduceMul, cond_true, cond_false, List.toList_toArray, Option.map_some, Option.map_none, Option.some.injEq, List.cons_append, List.nil_append, List.length_cons, List.length_nil, List.getD_cons_zero, List.getD_cons_succ]
            refine ⟨fok7, alive_cps _ _ fun wz hMz => .inl ⟨_, rfl, hold_ops okT (rs := [.tmp 6]) rfl ?_⟩⟩
            simp (config := { maxSteps := 1000000 }) (disch := first | omega | (simp only [sizeAlloc, sizeDrew, sizeSet, sizePut] <;> omega) | fail) only [GS1, GS2, GS3, GS4, GS5, GS6, GS7, GS8, GS9, GS10, GS11, TT_eq, TTl, Nat.reduceAdd, Nat.reduceMul, Nat.reduceSub, Nat.reduceDiv, Nat.reduceMod, Nat.reducePow, Nat.reduceEqDiff, ↓reduceIte, reduceCtorEq, true_and, and_true, and_self, false_and, and_false, Int.reduceToNat, Int.reduceAdd, Int.reduceSub, Int.reduceMul, cond_true, cond_false, List.toList_toArray, Option.map_some, Option.map_none, Option.some.injEq, List.cons_append, List.nil_append, List.length_cons, List.length_nil, List.getD_cons_zero, List.getD_cons_succ]
            exact hR _ (hM4.trans hMz (by simp))
          · exfalso
            unfold swapS at he
            rw [if_pos ⟨c1, c2, c3⟩] at he
            split at he
            · simp at he
            · split at he <;> simp at he
        · have he : swapS t f T = ([], 2) := by unfold swapS; rw [if_neg (fun h => c3 h.2.2)]
          rw [hX] at he
          simp only [Prod.mk.injEq] at he
          obtain ⟨rfl, rfl⟩ := he
          simp (config := { maxSteps := 1000000 }) (disch := first | omega | (simp only [sizeAlloc, sizeDrew, sizeSet, sizePut] <;> omega) | fail) only [GS1, GS2, GS3, GS4, GS5, GS6, GS7, GS8, GS9, GS10, GS11, TT_eq, TTl, Nat.reduceAdd, Nat.reduceMul, Nat.reduceSub, Nat.reduceDiv, Nat.reduceMod, Nat.reducePow, Nat.reduceEqDiff, ↓reduceIte, reduceCtorEq, true_and, and_true, and_self, false_and, and_false, Int.reduceToNat, Int.reduceAdd, Int.reduceSub, Int.reduceMul, cond_true, cond_false, List.toList_toArray, Option.map_some, Option.map_none, Option.some.injEq, List.cons_append, List.nil_append, List.length_cons, List.length_nil, List.getD_cons_zero, List.getD_cons_succ, c3, eq_self]
          refine ⟨fok7, alive_cps _ _ fun wz hMz => .inl ⟨_, rfl, hold_ops okT (rs := [.tmp 6]) rfl ?_⟩⟩
          simp (config := { maxSteps := 1000000 }) (disch := first | omega | (simp only [sizeAlloc, sizeDrew, sizeSet, sizePut] <;> omega) | fail) only [GS1, GS2, GS3, GS4, GS5, GS6, GS7, GS8, GS9, GS10, GS11, TT_eq, TTl, Nat.reduceAdd, Nat.reduceMul, Nat.reduceSub, Nat.reduceDiv, Nat.reduceMod, Nat.reducePow, Nat.reduceEqDiff, ↓reduceIte, reduceCtorEq, true_and, and_true, and_self, false_and, and_false, Int.reduceToNat, Int.reduceAdd, Int.reduceSub, Int.reduceMul, cond_true, cond_false, List.toList_toArray, Option.map_some, Option.map_none, Option.some.injEq, List.cons_append, List.nil_append, List.length_cons, List.length_nil, List.getD_cons_zero, List.getD_cons_succ]
          exact hR _ (hM4.trans hMz (by simp))
      · have he : swapS t f T = ([], 2) := by unfold swapS; rw [if_neg (fun h => c2 h.2.1)]
        rw [hX] at he
        simp only [Prod.mk.injEq] at he
        obtain ⟨rfl, rfl⟩ := he
        simp (config := { maxSteps := 1000000 }) (disch := first | omega | (simp only [sizeAlloc, sizeDrew, sizeSet, sizePut] <;> omega) | fail) only [GS1, GS2, GS3, GS4, GS5, GS6, GS7, GS8, GS9, GS10, GS11, TT_eq, TTl, Nat.reduceAdd, Nat.reduceMul, Nat.reduceSub, Nat.reduceDiv, Nat.reduceMod, Nat.reducePow, Nat.reduceEqDiff, ↓reduceIte, reduceCtorEq, true_and, and_true, and_self, false_and, and_false, Int.reduceToNat, Int.reduceAdd, Int.reduceSub, Int.reduceMul, cond_true, cond_false, List.toList_toArray, Option.map_some, Option.map_none, Option.some.injEq, List.cons_append, List.nil_append, List.length_cons, List.length_nil, List.getD_cons_zero, List.getD_cons_succ, c2, eq_self]
        refine ⟨fok7, alive_cps _ _ fun wz hMz => .inl ⟨_, rfl, hold_ops okT (rs := [.tmp 6]) rfl ?_⟩⟩
        simp (config := { maxSteps := 1000000 }) (disch := first | omega | (simp only [sizeAlloc, sizeDrew, sizeSet, sizePut] <;> omega) | fail) only [GS1, GS2, GS3, GS4, GS5, GS6, GS7, GS8, GS9, GS10, GS11, TT_eq, TTl, Nat.reduceAdd, Nat.reduceMul, Nat.reduceSub, Nat.reduceDiv, Nat.reduceMod, Nat.reducePow, Nat.reduceEqDiff, ↓reduceIte, reduceCtorEq, true_and, and_true, and_self, false_and, and_false, Int.reduceToNat, Int.reduceAdd, Int.reduceSub, Int.reduceMul, cond_true, cond_false, List.toList_toArray, Option.map_some, Option.map_none, Option.some.injEq, List.cons_append, List.nil_append, List.length_cons, List.length_nil, List.getD_cons_zero, List.getD_cons_succ]
        exact hR _ (hM3.trans hMz (by simp))
    · have he : swapS t f T = ([], 2) := by unfold swapS; rw [if_neg (fun h => c1 h.1)]
      rw [hX] at he
      simp only [Prod.mk.injEq] at he
      obtain ⟨rfl, rfl⟩ := he
      simp (config := { maxSteps := 1000000 }) (disch := first | omega | (simp only [sizeAlloc, sizeDrew, sizeSet, sizePut] <;> omega) | fail) only [GS1, GS2, GS3, GS4, GS5, GS6, GS7, GS8, GS9, GS10, GS11, TT_eq, TTl, Nat.reduceAdd, Nat.reduceMul, Nat.reduceSub, Nat.reduceDiv, Nat.reduceMod, Nat.reducePow, Nat.reduceEqDiff, ↓reduceIte, reduceCtorEq, true_and, and_true, and_self, false_and, and_false, Int.reduceToNat, Int.reduceAdd, Int.reduceSub, Int.reduceMul, cond_true, cond_false, List.toList_toArray, Option.map_some, Option.map_none, Option.some.injEq, List.cons_append, List.nil_append, List.length_cons, List.length_nil, List.getD_cons_zero, List.getD_cons_succ, c1, eq_self]
      refine ⟨fok7, alive_cps _ _ fun wz hMz => .inl ⟨_, rfl, hold_ops okT (rs := [.tmp 6]) rfl ?_⟩⟩
      simp (config := { maxSteps := 1000000 }) (disch := first | omega | (simp only [sizeAlloc, sizeDrew, sizeSet, sizePut] <;> omega) | fail) only [GS1, GS2, GS3, GS4, GS5, GS6, GS7, GS8, GS9, GS10, GS11, TT_eq, TTl, Nat.reduceAdd, Nat.reduceMul, Nat.reduceSub, Nat.reduceDiv, Nat.reduceMod, Nat.reducePow, Nat.reduceEqDiff, ↓reduceIte, reduceCtorEq, true_and, and_true, and_self, false_and, and_false, Int.reduceToNat, Int.reduceAdd, Int.reduceSub, Int.reduceMul, cond_true, cond_false, List.toList_toArray, Option.map_some, Option.map_none, Option.some.injEq, List.cons_append, List.nil_append, List.length_cons, List.length_nil, List.getD_cons_zero, List.getD_cons_succ]
      exact hR _ (hM2.trans hMz (by simp))
end Go.Proofs.Ytfobkimmpiahjaa
