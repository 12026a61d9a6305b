/-
  know: New, Copy, Learn, Can, Len (walks).
-/
import Derived.Test.YtoladcdelaemoaaQdKnw4
set_option linter.unusedSimpArgs false
set_option linter.unusedVariables false
set_option maxRecDepth 20000
namespace Go.Proofs.Ytoladcdelaemoaa
open Go Go.Wk Go.RowKit
attribute [local irreducible] go Hold
open Go.Lib
set_option maxHeartbeats 2000000 in
theorem new_cps (w : World) (R : Ending → World → Prop) (hR : ∀ w' kp mr, KnAt w' kp mr [] → w.heap.size ≤ kp → w.heap.size ≤ mr → Mod [] w w' → R (.returned (.pointer (some ⟨kp, 0, none⟩))) w') : Calls Try.prog 33 #[] w R := by
  refine calls_go 4000 okT Try.func33 rfl (rs := [.tmp 0]) rfl Try.ntmps33 (args := []) ?_
  simp (maxSteps := 1000000) (disch := first | omega | (simp only [sizeAlloc, sizeDrew, sizeSet, sizePut] <;> omega) | fail) only [GS, TT_eq, TTl, Nat.reduceAdd, Nat.reduceMul, Nat.reduceSub, Nat.reduceDiv, Nat.reduceMod, Nat.reducePow, Nat.reduceEqDiff, ↓reduceIte, reduceCtorEq, Int.reduceToNat, Int.reduceAdd, Int.reduceSub, Int.reduceMul]
  refine hold_makeMapW rfl fun w1 hm hM => hold_ops okT (rs := [.tmp 0]) rfl ?_
  simp (maxSteps := 1000000) (disch := first | omega | (simp only [sizeAlloc, sizeDrew, sizeSet, sizePut] <;> omega) | fail) only [GS, TT_eq, TTl, Nat.reduceAdd, Nat.reduceMul, Nat.reduceSub, Nat.reduceDiv, Nat.reduceMod, Nat.reducePow, Nat.reduceEqDiff, ↓reduceIte, reduceCtorEq, Int.reduceToNat, Int.reduceAdd, Int.reduceSub, Int.reduceMul]
  exact hR _ w1.heap.size w.heap.size ⟨heapNew, [], hm.mod ((Mod.refl [] w1).alloc _) (by simp), trivial⟩ hM.size (Nat.le_refl _) (hM.trans ((Mod.refl [] w1).alloc _) (by simp))
set_option maxHeartbeats 2000000 in
theorem copy_cps (E : List Ent) (kp mr : Nat) (w : World) (hK : KnAt w kp mr E) (R : Ending → World → Prop) (hR : ∀ w' kp' mr', KnAt w' kp' mr' E → w.heap.size ≤ kp' → w.heap.size ≤ mr' → Mod [] w w' → R (.returned (.pointer (some ⟨kp', 0, none⟩))) w') :
    Calls Try.prog 54 #[.pointer (some ⟨kp, 0, none⟩)] w R := by
  refine calls_go 4000 okT Try.func54 rfl (rs := [.tmp 2]) rfl Try.ntmps54 (args := [.pointer (some ⟨kp, 0, none⟩)]) ?_
  have cK : w.cell? ⟨kp, 0, none⟩ = some (.map (some mr)) := by rw [cellOf hK.1]; rfl
  obtain ⟨l, hmp, hen⟩ := id hK.2
  simp (maxSteps := 1000000) (disch := first | omega | (simp only [sizeAlloc, sizeDrew, sizeSet, sizePut] <;> omega) | fail) only [GS, TT_eq, TTl, Nat.reduceAdd, Nat.reduceMul, Nat.reduceSub, Nat.reduceDiv, Nat.reduceMod, Nat.reducePow, Nat.reduceEqDiff, ↓reduceIte, reduceCtorEq, Int.reduceToNat, Int.reduceAdd, Int.reduceSub, Int.reduceMul, cK]
  refine ⟨fok72, clone_cps mr l w hmp _ fun w1 hmp1 hM1 _ => .inl ⟨_, rfl, hold_ops okT (rs := [.tmp 2]) rfl ?_⟩⟩
  simp (maxSteps := 1000000) (disch := first | omega | (simp only [sizeAlloc, sizeDrew, sizeSet, sizePut] <;> omega) | fail) only [GS, TT_eq, TTl, Nat.reduceAdd, Nat.reduceMul, Nat.reduceSub, Nat.reduceDiv, Nat.reduceMod, Nat.reducePow, Nat.reduceEqDiff, ↓reduceIte, reduceCtorEq, Int.reduceToNat, Int.reduceAdd, Int.reduceSub, Int.reduceMul]
  have hM2 := (Mod.refl [] w1).alloc (.cells #[.map (some w.heap.size)] 92)
  exact hR _ w1.heap.size w.heap.size ⟨heapNew, l, hmp1.mod hM2 (by simp), (hen.mod hM1 (by simp)).mod hM2 (by simp)⟩ hM1.size (Nat.le_refl _) (hM1.trans hM2 (by simp))
theorem take_pre {n : Nat} {E : List Ent} {t : Tm} (hc : checkS t = 0) (hn : t.length ≤ n) (h : ¬ E.length < (takeF n E t).length) : takeF n E t = E := by
  obtain ⟨N, e, _⟩ := (take_ok n t E hc hn).pre
  rw [e, List.length_append] at h
  have : N = [] := List.eq_nil_of_length_eq_zero (by omega)
  rw [e, this, List.append_nil]
set_option maxHeartbeats 8000000 in
theorem learn_cps (S : List Tm) (hS : ∀ s ∈ S, checkS s = 0) (E : List Ent) (hI : KnIs S E) (hF : FinE E) (t : Tm) (ht : t.length ≤ maxLen) (kp mr : Nat) (w : World) (hK : KnAt w kp mr E) (R : Ending → World → Prop)
    (h0 : checkS t ≠ 0 → ∀ w', Mod [] w w' → R (.returned (.int .i64 2)) w')
    (h1 : checkS t = 0 → ∀ E' mr' w', KnIs (S ++ [t]) E' → FinE E' → E'.length ≤ 2048 → KnAt w' kp mr' E' → w.heap.size ≤ mr' → Mod [kp] w w' → R (.returned (.int .i64 0)) w')
    (h2 : checkS t = 0 → ∀ E' w', KnIs (S ++ [t]) E' → 2048 < E'.length → Mod [] w w' → R (.returned (.int .i64 4)) w') :
    Calls Try.prog 34 #[.pointer (some ⟨kp, 0, none⟩), .string ⟨t.toArray⟩] w R := by
  refine calls_go 4000 okT Try.func34 rfl (rs := [.tmp 4]) rfl Try.ntmps34 (args := [.pointer (some ⟨kp, 0, none⟩), .string ⟨t.toArray⟩]) ?_
  simp (maxSteps := 1000000) (disch := first | omega | (simp only [sizeAlloc, sizeDrew, sizeSet, sizePut] <;> omega) | fail) only [GS, TT_eq, TTl, Nat.reduceAdd, Nat.reduceMul, Nat.reduceSub, Nat.reduceDiv, Nat.reduceMod, Nat.reducePow, Nat.reduceEqDiff, ↓reduceIte, reduceCtorEq, Int.reduceToNat, Int.reduceAdd, Int.reduceSub, Int.reduceMul]
  refine ⟨fok25, tCheck_cps t ht w _ fun w1 hM1 => .inl ⟨_, rfl, hold_ops okT (rs := [.tmp 4]) rfl ?_⟩⟩
  by_cases hc : checkS t = 0
  · rw [hc]
    simp (maxSteps := 1000000) (disch := first | omega | (simp only [sizeAlloc, sizeDrew, sizeSet, sizePut] <;> omega) | fail) only [GS, TT_eq, TTl, Nat.reduceAdd, Nat.reduceMul, Nat.reduceSub, Nat.reduceDiv, Nat.reduceMod, Nat.reducePow, Nat.reduceEqDiff, ↓reduceIte, reduceCtorEq, Int.reduceToNat, Int.reduceAdd, Int.reduceSub, Int.reduceMul]
    have hKo1 := hK.mod0 hM1
    refine ⟨fok54, copy_cps E kp mr w1 hKo1 _ fun w2 kp1 mr1 hK2 hkp1 hmr1' hM2 => .inl ⟨_, rfl, hold_ops okT (rs := [.tmp 4]) rfl ?_⟩⟩
    have hM02 := hM1.trans hM2 (by simp)
    have hmr1 : w.heap.size ≤ mr1 := by have := hM1.size; omega
    simp (maxSteps := 1000000) (disch := first | omega | (simp only [sizeAlloc, sizeDrew, sizeSet, sizePut] <;> omega) | fail) only [GS, TT_eq, TTl, Nat.reduceAdd, Nat.reduceMul, Nat.reduceSub, Nat.reduceDiv, Nat.reduceMod, Nat.reducePow, Nat.reduceEqDiff, ↓reduceIte, reduceCtorEq, Int.reduceToNat, Int.reduceAdd, Int.reduceSub, Int.reduceMul]
    refine ⟨fok55, take_cps E kp1 mr1 t hc w2 _ hK2 fun w3 hK3 hM3 => .inl ⟨_, rfl, hold_ops okT (rs := [.tmp 4]) rfl ?_⟩⟩
    have hM03 : Mod [] w w3 := hM02.trans hM3 (by intro x hx; simp only [List.mem_singleton] at hx; subst hx; exact .inr hmr1)
    have hKo3 := hK.mod0 hM03
    have hI1 := hI.learn hc (Nat.le_refl t.length)
    have hpre := take_pre (E := E) hc (Nat.le_refl t.length)
    have hS1 : ∀ s ∈ S ++ [t], checkS s = 0 := by intro s hs; rcases List.mem_append.1 hs with h | h; exact hS s h; simp only [List.mem_singleton] at h; rw [h]; exact hc
    generalize takeF t.length E t = E1 at hK3 hI1 hpre
    have cN3 : w3.cell? ⟨kp, 0, none⟩ = some (.map (some mr)) := by rw [cellOf hKo3.1]; rfl
    have cC3 : w3.cell? ⟨kp1, 0, none⟩ = some (.map (some mr1)) := by rw [cellOf hK3.1]; rfl
    obtain ⟨la, hmpa, hena⟩ := id hK3.2
    obtain ⟨lb, hmpb, henb⟩ := id hKo3.2
    have hla := hena.len
    have hlb := henb.len
    simp (maxSteps := 1000000) (disch := first | omega | (simp only [sizeAlloc, sizeDrew, sizeSet, sizePut] <;> omega) | fail) only [GS, TT_eq, TTl, Nat.reduceAdd, Nat.reduceMul, Nat.reduceSub, Nat.reduceDiv, Nat.reduceMod, Nat.reducePow, Nat.reduceEqDiff, ↓reduceIte, reduceCtorEq, Int.reduceToNat, Int.reduceAdd, Int.reduceSub, Int.reduceMul]
    refine ⟨by kernel_rfl, ?_⟩
    simp (maxSteps := 1000000) (disch := first | omega | (simp only [sizeAlloc, sizeDrew, sizeSet, sizePut] <;> omega) | fail) only [GS, TT_eq, TTl, Nat.reduceAdd, Nat.reduceMul, Nat.reduceSub, Nat.reduceDiv, Nat.reduceMod, Nat.reducePow, Nat.reduceEqDiff, ↓reduceIte, reduceCtorEq, Int.reduceToNat, Int.reduceAdd, Int.reduceSub, Int.reduceMul, cC3, cN3, lenM]
    refine hold_lenMapQ okT rfl rfl rfl hmpa.at ?_
    refine hold_qops okT (rs := [.tmp 4]) rfl ?_
    simp (maxSteps := 1000000) (disch := first | omega | (simp only [sizeAlloc, sizeDrew, sizeSet, sizePut] <;> omega) | fail) only [GS, TT_eq, TTl, Nat.reduceAdd, Nat.reduceMul, Nat.reduceSub, Nat.reduceDiv, Nat.reduceMod, Nat.reducePow, Nat.reduceEqDiff, ↓reduceIte, reduceCtorEq, Int.reduceToNat, Int.reduceAdd, Int.reduceSub, Int.reduceMul, cC3, cN3, lenM]
    refine hold_lenMapQ okT rfl rfl rfl hmpb.at ?_
    refine hold_qops okT (rs := [.tmp 4]) rfl ?_
    by_cases hg : E.length < E1.length
    · simp (maxSteps := 1000000) (disch := first | omega | (simp only [sizeAlloc, sizeDrew, sizeSet, sizePut] <;> omega) | fail) only [GS, TT_eq, TTl, Nat.reduceAdd, Nat.reduceMul, Nat.reduceSub, Nat.reduceDiv, Nat.reduceMod, Nat.reducePow, Nat.reduceEqDiff, ↓reduceIte, reduceCtorEq, Int.reduceToNat, Int.reduceAdd, Int.reduceSub, Int.reduceMul]
      intro m
      have hD := (Mod.refl [] w3).drewN m
      replace hM03 := hM03.trans hD (by simp)
      replace hK3 := hK3.mod0 hD
      clear hD cN3 cC3 hmpa hena hmpb henb hKo3 hM3
      generalize w3.drewN m = w4 at *
      refine ⟨fok56, open_cps (S ++ [t]) hS1 E1 kp1 mr1 hI1 w4 _ hK3 fun E2 w5 hIf hFf hKw5 hM5 => .inl ⟨_, rfl, hold_ops okT (rs := [.tmp 4]) rfl ?_⟩⟩
      have hMw5 : Mod [] w w5 := hM03.trans hM5 (by intro x hx; simp only [List.mem_singleton] at hx; subst hx; exact .inr hmr1)
      have hKow5 := hK.mod0 hMw5
      have hkM := hKw5.1
      have cN : w5.cell? ⟨kp, 0, none⟩ = some (.map (some mr)) := by rw [cellOf hKow5.1]; rfl
      have fN := frozenOf (o := 0) hKow5.1
      have cC : w5.cell? ⟨kp1, 0, none⟩ = some (.map (some mr1)) := by rw [cellOf hKw5.1]; rfl
      obtain ⟨l2, hmp2, hen2⟩ := id hKw5.2
      simp (maxSteps := 1000000) (disch := first | omega | (simp only [sizeAlloc, sizeDrew, sizeSet, sizePut] <;> omega) | fail) only [GS, TT_eq, TTl, Nat.reduceAdd, Nat.reduceMul, Nat.reduceSub, Nat.reduceDiv, Nat.reduceMod, Nat.reducePow, Nat.reduceEqDiff, ↓reduceIte, reduceCtorEq, Int.reduceToNat, Int.reduceAdd, Int.reduceSub, Int.reduceMul, cC, lenM]
      refine hold_lenMap okT rfl rfl rfl hmp2.at ?_
      refine hold_ops okT (rs := [.tmp 4]) rfl ?_
      have hl2 := hen2.len
      by_cases hf : 2048 < E2.length
      · simp (maxSteps := 1000000) (disch := first | omega | (simp only [sizeAlloc, sizeDrew, sizeSet, sizePut] <;> omega) | fail) only [GS, TT_eq, TTl, Nat.reduceAdd, Nat.reduceMul, Nat.reduceSub, Nat.reduceDiv, Nat.reduceMod, Nat.reducePow, Nat.reduceEqDiff, ↓reduceIte, reduceCtorEq, Int.reduceToNat, Int.reduceAdd, Int.reduceSub, Int.reduceMul, cC]
        exact h2 hc E2 _ hIf hf hMw5
      · simp (maxSteps := 1000000) (disch := first | omega | (simp only [sizeAlloc, sizeDrew, sizeSet, sizePut] <;> omega) | fail) only [GS, TT_eq, TTl, Nat.reduceAdd, Nat.reduceMul, Nat.reduceSub, Nat.reduceDiv, Nat.reduceMod, Nat.reducePow, Nat.reduceEqDiff, ↓reduceIte, reduceCtorEq, Int.reduceToNat, Int.reduceAdd, Int.reduceSub, Int.reduceMul, cC, cN, fN]
        refine h1 hc E2 mr1 _ hIf hFf (by omega) ⟨heapSet (o := 0) (v := .map (some mr1)) hKow5.1, l2, ?_, ?_⟩ hmr1 ((hMw5.mono (by simp)).set (p := ⟨kp, 0, none⟩) (.inl (by simp)) _)
        · exact hmp2.mod ((Mod.refl [kp] w5).set (p := ⟨kp, 0, none⟩) (.inl (by simp)) _) (by simpa using Ne.symm (hKw5.2.ne hKow5.1))
        · exact hen2.mod ((Mod.refl [kp] w5).set (p := ⟨kp, 0, none⟩) (.inl (by simp)) _) (by intro s hs; simp only [List.mem_singleton] at hs; subst hs; exact hKow5.nostr)
    · simp (maxSteps := 1000000) (disch := first | omega | (simp only [sizeAlloc, sizeDrew, sizeSet, sizePut] <;> omega) | fail) only [GS, TT_eq, TTl, Nat.reduceAdd, Nat.reduceMul, Nat.reduceSub, Nat.reduceDiv, Nat.reduceMod, Nat.reducePow, Nat.reduceEqDiff, ↓reduceIte, reduceCtorEq, Int.reduceToNat, Int.reduceAdd, Int.reduceSub, Int.reduceMul, cC3, lenM]
      intro m
      have hD := (Mod.refl [] w3).drewN m
      have hMw5 := hM03.trans hD (by simp)
      have hKw5 := hK3.mod0 hD
      have hKow5 := hK.mod0 hMw5
      have hIf := hI1
      have hFf : FinE E1 := by rw [hpre hg]; exact hF
      clear hD cN3 cC3 hmpa hena hmpb henb hKo3 hM3
      generalize w3.drewN m = w5 at *
      have hkM := hKw5.1
      have cN : w5.cell? ⟨kp, 0, none⟩ = some (.map (some mr)) := by rw [cellOf hKow5.1]; rfl
      have fN := frozenOf (o := 0) hKow5.1
      have cC : w5.cell? ⟨kp1, 0, none⟩ = some (.map (some mr1)) := by rw [cellOf hKw5.1]; rfl
      obtain ⟨l2, hmp2, hen2⟩ := id hKw5.2
      refine hold_lenMap okT rfl rfl rfl hmp2.at ?_
      refine hold_ops okT (rs := [.tmp 4]) rfl ?_
      have hl2 := hen2.len
      by_cases hf : 2048 < E1.length
      · simp (maxSteps := 1000000) (disch := first | omega | (simp only [sizeAlloc, sizeDrew, sizeSet, sizePut] <;> omega) | fail) only [GS, TT_eq, TTl, Nat.reduceAdd, Nat.reduceMul, Nat.reduceSub, Nat.reduceDiv, Nat.reduceMod, Nat.reducePow, Nat.reduceEqDiff, ↓reduceIte, reduceCtorEq, Int.reduceToNat, Int.reduceAdd, Int.reduceSub, Int.reduceMul, cC]
        exact h2 hc E1 _ hIf hf hMw5
      · simp (maxSteps := 1000000) (disch := first | omega | (simp only [sizeAlloc, sizeDrew, sizeSet, sizePut] <;> omega) | fail) only [GS, TT_eq, TTl, Nat.reduceAdd, Nat.reduceMul, Nat.reduceSub, Nat.reduceDiv, Nat.reduceMod, Nat.reducePow, Nat.reduceEqDiff, ↓reduceIte, reduceCtorEq, Int.reduceToNat, Int.reduceAdd, Int.reduceSub, Int.reduceMul, cC, cN, fN]
        refine h1 hc E1 mr1 _ hIf hFf (by omega) ⟨heapSet (o := 0) (v := .map (some mr1)) hKow5.1, l2, ?_, ?_⟩ hmr1 ((hMw5.mono (by simp)).set (p := ⟨kp, 0, none⟩) (.inl (by simp)) _)
        · exact hmp2.mod ((Mod.refl [kp] w5).set (p := ⟨kp, 0, none⟩) (.inl (by simp)) _) (by simpa using Ne.symm (hKw5.2.ne hKow5.1))
        · exact hen2.mod ((Mod.refl [kp] w5).set (p := ⟨kp, 0, none⟩) (.inl (by simp)) _) (by intro s hs; simp only [List.mem_singleton] at hs; subst hs; exact hKow5.nostr)
  · simp (maxSteps := 1000000) (disch := first | omega | (simp only [sizeAlloc, sizeDrew, sizeSet, sizePut] <;> omega) | fail) only [GS, TT_eq, TTl, Nat.reduceAdd, Nat.reduceMul, Nat.reduceSub, Nat.reduceDiv, Nat.reduceMod, Nat.reducePow, Nat.reduceEqDiff, ↓reduceIte, reduceCtorEq, Int.reduceToNat, Int.reduceAdd, Int.reduceSub, Int.reduceMul, hc]
    exact h0 hc _ hM1
set_option maxHeartbeats 2000000 in
theorem Can_cps (E : List Ent) (t : Tm) (ht : t.length ≤ maxLen) (kp mr : Nat) (w : World) (hK : KnAt w kp mr E) (R : Ending → World → Prop) (hR : ∀ w', Mod [] w w' → R (.returned (.bool (decide (checkS t = 0) && mkB E t))) w') :
    Calls Try.prog 12 #[.pointer (some ⟨kp, 0, none⟩), .string ⟨t.toArray⟩] w R := by
  refine calls_go 4000 okT Try.func12 rfl (rs := [.tmp 4]) rfl Try.ntmps12 (args := [.pointer (some ⟨kp, 0, none⟩), .string ⟨t.toArray⟩]) ?_
  simp (maxSteps := 1000000) (disch := first | omega | (simp only [sizeAlloc, sizeDrew, sizeSet, sizePut] <;> omega) | fail) only [GS, TT_eq, TTl, Nat.reduceAdd, Nat.reduceMul, Nat.reduceSub, Nat.reduceDiv, Nat.reduceMod, Nat.reducePow, Nat.reduceEqDiff, ↓reduceIte, reduceCtorEq, Int.reduceToNat, Int.reduceAdd, Int.reduceSub, Int.reduceMul]
  refine ⟨fok25, tCheck_cps t ht w _ fun w1 hM1 => .inl ⟨_, rfl, hold_ops okT (rs := [.tmp 4]) rfl ?_⟩⟩
  by_cases hc : checkS t = 0
  · rw [decide_eq_true hc, Bool.true_and] at hR
    rw [hc]
    simp (maxSteps := 1000000) (disch := first | omega | (simp only [sizeAlloc, sizeDrew, sizeSet, sizePut] <;> omega) | fail) only [GS, TT_eq, TTl, Nat.reduceAdd, Nat.reduceMul, Nat.reduceSub, Nat.reduceDiv, Nat.reduceMod, Nat.reducePow, Nat.reduceEqDiff, ↓reduceIte, reduceCtorEq, Int.reduceToNat, Int.reduceAdd, Int.reduceSub, Int.reduceMul]
    refine ⟨fok40, can_cps E kp mr t.length t (Nat.le_refl _) hc w1 _ (hK.mod0 hM1) fun w2 hM2 => .inl ⟨_, rfl, hold_ops okT (rs := [.tmp 4]) rfl ?_⟩⟩
    simp (maxSteps := 1000000) (disch := first | omega | (simp only [sizeAlloc, sizeDrew, sizeSet, sizePut] <;> omega) | fail) only [GS, TT_eq, TTl, Nat.reduceAdd, Nat.reduceMul, Nat.reduceSub, Nat.reduceDiv, Nat.reduceMod, Nat.reducePow, Nat.reduceEqDiff, ↓reduceIte, reduceCtorEq, Int.reduceToNat, Int.reduceAdd, Int.reduceSub, Int.reduceMul]
    exact hR _ (hM1.trans hM2 (by simp))
  · rw [decide_eq_false hc, Bool.false_and] at hR
    simp (maxSteps := 1000000) (disch := first | omega | (simp only [sizeAlloc, sizeDrew, sizeSet, sizePut] <;> omega) | fail) only [GS, TT_eq, TTl, Nat.reduceAdd, Nat.reduceMul, Nat.reduceSub, Nat.reduceDiv, Nat.reduceMod, Nat.reducePow, Nat.reduceEqDiff, ↓reduceIte, reduceCtorEq, Int.reduceToNat, Int.reduceAdd, Int.reduceSub, Int.reduceMul, hc]
    exact hR _ hM1
end Go.Proofs.Ytoladcdelaemoaa
