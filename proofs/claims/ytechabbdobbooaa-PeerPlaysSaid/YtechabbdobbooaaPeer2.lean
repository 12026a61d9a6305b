/-
  The peer: Take.
-/
import Derived.Test.YtechabbdobbooaaPeer1
set_option linter.unusedSimpArgs false
set_option linter.unusedVariables false
namespace Go.Proofs.Ytechabbdobbooaa
open Go Go.Wk Go.RowKit
attribute [local irreducible] go Hold
def nonceOk (n : Int) : Prop := 1 ≤ n ∧ n ≤ 65535
instance (n : Int) : Decidable (nonceOk n) := inferInstanceAs (Decidable (_ ∧ _))
def winS (s : PS) (n : Int) : PS := { s with t := (tk (s.t, s.v) n).1, v := (tk (s.t, s.v) n).2 }
def takeC (s : PS) (a b n : Int) : Int :=
  if ¬ (epochOk a ∧ epochOk b ∧ nonceOk n) then 2 else if b ≠ s.own then 190 else if a < s.known then 180 else mayC (hearS s a).t (hearS s a).v n
def takeS (s : PS) (a b n : Int) : PS :=
  if ¬ (epochOk a ∧ epochOk b ∧ nonceOk n) then s else if b ≠ s.own then s else if a < s.known then s else winS (hearS s a) n
set_option maxRecDepth 20000 in
set_option maxHeartbeats 1000000 in
theorem take1_cps (b4 b7 pb wb : Nat) (s : PS) (n : Int) (w : World) (R : Ending → World → Prop) (hs : WOk (s.t, s.v)) (h : isPeer w pb wb s) (h4 : w.heap[b4]? = some (.cells #[.pointer (some ⟨pb, 0, none⟩)] 33 (0, 0))) (h7 : w.heap[b7]? = some (.cells #[.int .i64 n] 3 (0, 0)))
    (hR : ∀ w', isPeer w' pb wb (winS s n) → Mod [wb] w w' → R (.returned (.int .i64 (mayC s.t s.v n))) w') :
    Calls Try.prog 32 #[.pointer (some ⟨b4, 0, none⟩), .pointer (some ⟨b7, 0, none⟩)] w R := by
  by_cases hw4 : b4 = wb
  · subst hw4; have := h.2.2; rw [isWin, h4] at this; simp at this
  by_cases hw7 : b7 = wb
  · subst hw7; have := h.2.2; rw [isWin, h7] at this; simp at this
  have c4 := cellOf (o := 0) h4; have c7 := cellOf (o := 0) h7; have c0 := cellOf (o := 0) h.2.1
  refine calls_go 4000 okT Try.func32 rfl (rs := [.tmp 2]) rfl Try.ntmps32 (args := [.pointer (some ⟨b4, 0, none⟩), .pointer (some ⟨b7, 0, none⟩)]) ?_
  simp (config := { maxSteps := 1000000 }) (disch := first | omega | (simp only [sizeAlloc, sizeDrew, sizeSet, sizePut]; omega) | fail) only [GS1, GS2, GS3, GS4, GS5, GS6, GS7, GS8, GS9, GS10, TT_eq, TTl, Nat.reduceAdd, Nat.reduceMul, Nat.reduceSub, Nat.reduceDiv, Nat.reduceMod, Nat.reducePow, Nat.reduceEqDiff, ↓reduceIte, reduceCtorEq, true_and, and_true, and_self, false_and, and_false, Int.reduceToNat, Int.reduceAdd, Int.reduceSub, Int.reduceMul, cond_true, cond_false, List.toList_toArray, Option.map_some, Option.map_none, Option.some.injEq, List.cons_append, List.nil_append]
  refine hold_draw okT (rs := [.tmp 2]) rfl [0, 1, 3, 7, 0, 31, 63] [0, 1, 2, 3, 4, 5, 6] (by kernel_rfl) (by kernel_rfl) ?_
  simp (config := { maxSteps := 1000000 }) (disch := first | omega | (simp only [sizeAlloc, sizeDrew, sizeSet, sizePut]; omega) | fail) only [GS1, GS2, GS3, GS4, GS5, GS6, GS7, GS8, GS9, GS10, TT_eq, TTl, Nat.reduceAdd, Nat.reduceMul, Nat.reduceSub, Nat.reduceDiv, Nat.reduceMod, Nat.reducePow, Nat.reduceEqDiff, ↓reduceIte, reduceCtorEq, true_and, and_true, and_self, false_and, and_false, Int.reduceToNat, Int.reduceAdd, Int.reduceSub, Int.reduceMul, cond_true, cond_false, List.toList_toArray, Option.map_some, Option.map_none, Option.some.injEq, List.cons_append, List.nil_append, c4, c7, c0]
  refine ⟨fok10, Take_all wb n (s.t, s.v) (w.drewN 1) _ hs h.2.2 fun w2 h2 hM2 => .inl ⟨_, rfl, hold_dops okT (rs := [.tmp 2]) rfl ?_⟩⟩
  simp (config := { maxSteps := 1000000 }) (disch := first | omega | (simp only [sizeAlloc, sizeDrew, sizeSet, sizePut]; omega) | fail) only [GS1, GS2, GS3, GS4, GS5, GS6, GS7, GS8, GS9, GS10, TT_eq, TTl, Nat.reduceAdd, Nat.reduceMul, Nat.reduceSub, Nat.reduceDiv, Nat.reduceMod, Nat.reducePow, Nat.reduceEqDiff, ↓reduceIte, reduceCtorEq, true_and, and_true, and_self, false_and, and_false, Int.reduceToNat, Int.reduceAdd, Int.reduceSub, Int.reduceMul, cond_true, cond_false, List.toList_toArray, Option.map_some, Option.map_none, Option.some.injEq, List.cons_append, List.nil_append]
  exact hR _ ⟨h.1, hM2.get h.2.1 (by simpa using h.1), h2⟩ (((Mod.refl [wb] w).drewN 1).trans hM2 (by simp))
theorem hearS_win {s : PS} (hs : WOk (s.t, s.v)) (n : Int) : WOk ((hearS s n).t, (hearS s n).v) := by
  unfold hearS; split
  · exact ⟨by simp, by simp, by simp⟩
  · exact hs
theorem hearS_own (s : PS) (n : Int) : (hearS s n).own = s.own := by unfold hearS; split <;> rfl
set_option maxRecDepth 20000 in
set_option maxHeartbeats 2000000 in
theorem PTake_cps (pb wb : Nat) (s : PS) (a b n : Int) (w : World) (R : Ending → World → Prop) (hs : WOk (s.t, s.v)) (h : isPeer w pb wb s)
    (hR : ∀ w' wb', (wb' = wb ∨ w.heap.size ≤ wb') → isPeer w' pb wb' (takeS s a b n) → Mod [pb, wb] w w' → R (.returned (.int .i64 (takeC s a b n))) w') :
    Calls Try.prog 14 #[.pointer (some ⟨pb, 0, none⟩), .int .i64 a, .int .i64 b, .int .i64 n] w R := by
  have hp := ltOf h.2.1; have hq := ltOf h.2.2
  have a4 : ((w.alloc (.cells #[.pointer (some ⟨pb, 0, none⟩)] 33)).alloc (.cells #[.int .i64 n] 3)).heap[w.heap.size]? = _ := heapAlloc heapNew
  have a7 : ((w.alloc (.cells #[.pointer (some ⟨pb, 0, none⟩)] 33)).alloc (.cells #[.int .i64 n] 3)).heap[w.heap.size + 1]? = _ := heapAe (by simp)
  have hM0 : Mod [] w ((w.alloc (.cells #[.pointer (some ⟨pb, 0, none⟩)] 33)).alloc (.cells #[.int .i64 n] 3)) := ((Mod.refl _ _).alloc _).alloc _
  have hz : ((w.alloc (.cells #[.pointer (some ⟨pb, 0, none⟩)] 33)).alloc (.cells #[.int .i64 n] 3)).heap.size = w.heap.size + 2 := by simp
  refine calls_go 4000 okT Try.func14 rfl (rs := [.tmp 8]) rfl Try.ntmps14 (args := [.pointer (some ⟨pb, 0, none⟩), .int .i64 a, .int .i64 b, .int .i64 n]) ?_
  simp (config := { maxSteps := 1000000 }) (disch := first | omega | (simp only [sizeAlloc, sizeDrew, sizeSet, sizePut]; omega) | fail) only [GS1, GS2, GS3, GS4, GS5, GS6, GS7, GS8, GS9, GS10, TT_eq, TTl, Nat.reduceAdd, Nat.reduceMul, Nat.reduceSub, Nat.reduceDiv, Nat.reduceMod, Nat.reducePow, Nat.reduceEqDiff, ↓reduceIte, reduceCtorEq, true_and, and_true, and_self, false_and, and_false, Int.reduceToNat, Int.reduceAdd, Int.reduceSub, Int.reduceMul, cond_true, cond_false, List.toList_toArray, Option.map_some, Option.map_none, Option.some.injEq, List.cons_append, List.nil_append]
  generalize (w.alloc (.cells #[.pointer (some ⟨pb, 0, none⟩)] 33)).alloc (.cells #[.int .i64 n] 3) = w1 at a4 a7 hM0 hz ⊢
  have c4 := cellOf (o := 0) a4; have c7 := cellOf (o := 0) a7
  have k1 := h.mod hM0 (by simp) (by simp)
  rw [show w.heap.size + 1 + 1 = w1.heap.size from by rw [hz]]
  refine ⟨fok29, within_cps 255 _ [a, b] _ _ (by simp) (Rd.lit rfl) (.inl ⟨_, rfl, hold_ops okT (rs := [.tmp 8]) rfl ?_⟩)⟩
  by_cases he : epochOk a ∧ epochOk b
  · rw [decide_eq_true (by simpa [epochOk] using he)]
    have hM1 := (Mod.refl [] w1).alloc (.cells #[.int .i64 a, .int .i64 b] 3)
    have b4 := hM1.get a4 (by simp); have b7 := hM1.get a7 (by simp); have k2 := k1.mod hM1 (by simp) (by simp)
    have hM2 := hM0.trans hM1 (by simp)
    have hz2 := hM1.size
    generalize w1.alloc (.cells #[.int .i64 a, .int .i64 b] 3) = w2 at b4 b7 k2 hM2 hz2 ⊢
    have c4 := cellOf (o := 0) b4; have c7 := cellOf (o := 0) b7
    simp (config := { maxSteps := 1000000 }) (disch := first | omega | (simp only [sizeAlloc, sizeDrew, sizeSet, sizePut]; omega) | fail) only [GS1, GS2, GS3, GS4, GS5, GS6, GS7, GS8, GS9, GS10, TT_eq, TTl, Nat.reduceAdd, Nat.reduceMul, Nat.reduceSub, Nat.reduceDiv, Nat.reduceMod, Nat.reducePow, Nat.reduceEqDiff, ↓reduceIte, reduceCtorEq, true_and, and_true, and_self, false_and, and_false, Int.reduceToNat, Int.reduceAdd, Int.reduceSub, Int.reduceMul, cond_true, cond_false, List.toList_toArray, Option.map_some, Option.map_none, Option.some.injEq, List.cons_append, List.nil_append, c7]
    refine ⟨fok29, within_cps 65535 _ [n] _ _ (by simp) (Rd.lit rfl) (.inl ⟨_, rfl, hold_ops okT (rs := [.tmp 8]) rfl ?_⟩)⟩
    have hM3 := (Mod.refl [] w2).alloc (.cells #[.int .i64 n] 3)
    have b4 := hM3.get b4 (by simp); have b7 := hM3.get b7 (by simp); have k3 := k2.mod hM3 (by simp) (by simp)
    have hM4 := hM2.trans hM3 (by simp)
    have hz3 := hM3.size
    generalize w2.alloc (.cells #[.int .i64 n] 3) = w3 at b4 b7 k3 hM4 hz3 ⊢
    have c4 := cellOf (o := 0) b4; have c1 := cellOf (o := 1) k3.2.1
    by_cases hn : nonceOk n
    · rw [decide_eq_true (by simpa [nonceOk] using hn)]
      have hg : ¬ ¬ (epochOk a ∧ epochOk b ∧ nonceOk n) := by simp [he, hn]
      unfold takeC takeS at hR
      rw [if_neg hg, if_neg hg] at hR
      by_cases ho : b = s.own
      · have ho' : ¬ (b ≠ s.own) := by simpa using ho
        rw [if_neg ho', if_neg ho'] at hR
        simp (config := { maxSteps := 1000000 }) (disch := first | omega | (simp only [sizeAlloc, sizeDrew, sizeSet, sizePut]; omega) | fail) only [GS1, GS2, GS3, GS4, GS5, GS6, GS7, GS8, GS9, GS10, TT_eq, TTl, Nat.reduceAdd, Nat.reduceMul, Nat.reduceSub, Nat.reduceDiv, Nat.reduceMod, Nat.reducePow, Nat.reduceEqDiff, ↓reduceIte, reduceCtorEq, true_and, and_true, and_self, false_and, and_false, Int.reduceToNat, Int.reduceAdd, Int.reduceSub, Int.reduceMul, cond_true, cond_false, List.toList_toArray, Option.map_some, Option.map_none, Option.some.injEq, List.cons_append, List.nil_append, c4, c1, ho]
        by_cases hk : a < s.known
        · rw [if_pos hk, if_pos hk] at hR
          refine ⟨fok30, heardH_old pb wb s a _ _ k3 hk _ (.inl ⟨_, rfl, hold_ops okT (rs := [.tmp 8]) rfl ?_⟩)⟩
          simp (config := { maxSteps := 1000000 }) (disch := first | omega | (simp only [sizeAlloc, sizeDrew, sizeSet, sizePut]; omega) | fail) only [GS1, GS2, GS3, GS4, GS5, GS6, GS7, GS8, GS9, GS10, TT_eq, TTl, Nat.reduceAdd, Nat.reduceMul, Nat.reduceSub, Nat.reduceDiv, Nat.reduceMod, Nat.reducePow, Nat.reduceEqDiff, ↓reduceIte, reduceCtorEq, true_and, and_true, and_self, false_and, and_false, Int.reduceToNat, Int.reduceAdd, Int.reduceSub, Int.reduceMul, cond_true, cond_false, List.toList_toArray, Option.map_some, Option.map_none, Option.some.injEq, List.cons_append, List.nil_append]
          exact hR _ wb (.inl rfl) k3 (hM4.mono (by simp))
        · rw [if_neg hk, if_neg hk] at hR
          have := ltOf k3.2.1; have := ltOf k3.2.2; have := hM4.size
          refine ⟨fok30, heard_on pb wb s a _ _ k3 hk _ _ fok32 fun w4 wb2 hwb k4 hM5 => take1_cps w.heap.size (w.heap.size + 1) pb wb2 _ n _ _ (hearS_win hs a) k4 (hM5.get b4 (by simp <;> omega)) (hM5.get b7 (by simp <;> omega)) fun w5 k5 hM6 => ⟨_, rfl, .inl ⟨_, rfl, hold_ops okT (rs := [.tmp 8]) rfl ?_⟩⟩⟩
          simp (config := { maxSteps := 1000000 }) (disch := first | omega | (simp only [sizeAlloc, sizeDrew, sizeSet, sizePut]; omega) | fail) only [GS1, GS2, GS3, GS4, GS5, GS6, GS7, GS8, GS9, GS10, TT_eq, TTl, Nat.reduceAdd, Nat.reduceMul, Nat.reduceSub, Nat.reduceDiv, Nat.reduceMod, Nat.reducePow, Nat.reduceEqDiff, ↓reduceIte, reduceCtorEq, true_and, and_true, and_self, false_and, and_false, Int.reduceToNat, Int.reduceAdd, Int.reduceSub, Int.reduceMul, cond_true, cond_false, List.toList_toArray, Option.map_some, Option.map_none, Option.some.injEq, List.cons_append, List.nil_append]
          refine hR _ wb2 (by omega) k5 ?_
          exact ((hM4.mono (S' := [pb, wb]) (by simp)).trans hM5 (by simp)).trans hM6 (by simp; omega)
      · rw [if_pos ho, if_pos ho] at hR
        simp (config := { maxSteps := 1000000 }) (disch := first | omega | (simp only [sizeAlloc, sizeDrew, sizeSet, sizePut]; omega) | fail) only [GS1, GS2, GS3, GS4, GS5, GS6, GS7, GS8, GS9, GS10, TT_eq, TTl, Nat.reduceAdd, Nat.reduceMul, Nat.reduceSub, Nat.reduceDiv, Nat.reduceMod, Nat.reducePow, Nat.reduceEqDiff, ↓reduceIte, reduceCtorEq, true_and, and_true, and_self, false_and, and_false, Int.reduceToNat, Int.reduceAdd, Int.reduceSub, Int.reduceMul, cond_true, cond_false, List.toList_toArray, Option.map_some, Option.map_none, Option.some.injEq, List.cons_append, List.nil_append, c4, c1, ho]
        exact hR _ wb (.inl rfl) k3 (hM4.mono (by simp))
    · rw [decide_eq_false (by simpa [nonceOk] using hn)]
      have hg : ¬ (epochOk a ∧ epochOk b ∧ nonceOk n) := by simp [hn]
      unfold takeC takeS at hR
      rw [if_pos hg, if_pos hg] at hR
      simp (config := { maxSteps := 1000000 }) (disch := first | omega | (simp only [sizeAlloc, sizeDrew, sizeSet, sizePut]; omega) | fail) only [GS1, GS2, GS3, GS4, GS5, GS6, GS7, GS8, GS9, GS10, TT_eq, TTl, Nat.reduceAdd, Nat.reduceMul, Nat.reduceSub, Nat.reduceDiv, Nat.reduceMod, Nat.reducePow, Nat.reduceEqDiff, ↓reduceIte, reduceCtorEq, true_and, and_true, and_self, false_and, and_false, Int.reduceToNat, Int.reduceAdd, Int.reduceSub, Int.reduceMul, cond_true, cond_false, List.toList_toArray, Option.map_some, Option.map_none, Option.some.injEq, List.cons_append, List.nil_append]
      exact hR _ wb (.inl rfl) k3 (hM4.mono (by simp))
  · rw [decide_eq_false (by simpa [epochOk] using he)]
    have hg : ¬ (epochOk a ∧ epochOk b ∧ nonceOk n) := fun h => he ⟨h.1, h.2.1⟩
    unfold takeC takeS at hR
    rw [if_pos hg, if_pos hg] at hR
    have hM1 := (Mod.refl [] w1).alloc (.cells #[.int .i64 a, .int .i64 b] 3)
    simp (config := { maxSteps := 1000000 }) (disch := first | omega | (simp only [sizeAlloc, sizeDrew, sizeSet, sizePut]; omega) | fail) only [GS1, GS2, GS3, GS4, GS5, GS6, GS7, GS8, GS9, GS10, TT_eq, TTl, Nat.reduceAdd, Nat.reduceMul, Nat.reduceSub, Nat.reduceDiv, Nat.reduceMod, Nat.reducePow, Nat.reduceEqDiff, ↓reduceIte, reduceCtorEq, true_and, and_true, and_self, false_and, and_false, Int.reduceToNat, Int.reduceAdd, Int.reduceSub, Int.reduceMul, cond_true, cond_false, List.toList_toArray, Option.map_some, Option.map_none, Option.some.injEq, List.cons_append, List.nil_append]
    exact hR _ wb (.inl rfl) (k1.mod hM1 (by simp) (by simp)) ((hM0.trans hM1 (by simp)).mono (by simp))
end Go.Proofs.Ytechabbdobbooaa
