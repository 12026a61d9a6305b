/-
  term.Kind, Text, Parts (walks).
-/
import Derived.Test.YticoollhaachfaaMk3
set_option linter.unusedSimpArgs false
set_option linter.unusedVariables false
namespace Go.Proofs.Yticoollhaachfaa
open Go Go.Wk Go.RowKit
attribute [local irreducible] go Hold
open Go.Lib
def kC (c : UInt8) : Nat := if c = 100 then 1 else if c = 97 then 2 else if c = 114 then 3 else if c = 104 then 4 else if c = 109 then 5 else if c = 115 then 6 else 0
def KL6 : List UInt8 := [100, 97, 114, 104, 109, 115]
set_option maxRecDepth 100000 in
theorem kC_ix (c : UInt8) : (1 : Int) + Lib.indexByte KL6 c = kC c := by
  have h : ∀ x : Fin 256, (1 : Int) + Lib.indexByte KL6 (UInt8.ofNat x.val) = kC (UInt8.ofNat x.val) := by decide
  have := h ⟨c.toNat, c.toNat_lt⟩
  simpa using this
theorem kC_le (c : UInt8) : kC c ≤ 6 := by unfold kC; repeat (first | split | omega)
def kindS (s : List UInt8) : Nat := if checkS s = 0 then kC (s.headD 0) else 0
def textS (s : List UInt8) : List UInt8 × Bool := if kindS s = 1 ∨ kindS s = 2 then ((readTextS (s.drop 1) 1024).1, true) else ([], false)
/-- What stands at the places of depth 2. -/
def cutS (S : List UInt8) (p : PL) : List UInt8 := (S.drop p.1).take (p.2.1 - p.1)
def pS (S : List UInt8) (l : List PL) : List (List UInt8) := (l.filter fun p => decide (p.2.2 = 2)).map (cutS S)
def partsS (s : List UInt8) : List (List UInt8) := pS s (walkS s 16 1 0).2.2
theorem walkS_nil {f d : Nat} : (walkS [] (f + 1) d 0).2.1 ≠ 0 := by simp [walkS, frontS]
theorem checkS_nil : checkS [] ≠ 0 := by decide
theorem rd1 (w : World) (s : List UInt8) : Rd (w.alloc (.cells #[.string ⟨s.toArray⟩] 9)) 1 (.slice (some ⟨w.heap.size, 0, none⟩) 1 1) 1 ([s].map strV) := Rd.lit (n := 1) (xs := [.string ⟨s.toArray⟩]) rfl
theorem allS_one (s : List UInt8) : allS [s] = decide (checkS s = 0) := by unfold allS; simp
/-- 'is' of one text. -/
theorem tIs1_cps (s : List UInt8) (hs : s.length ≤ maxLen) (w : World) (k : Nat) (hk : k = w.heap.size) (R : Ending → World → Prop) (hR : ∀ w', Mod [] (w.alloc (.cells #[.string ⟨s.toArray⟩] 9)) w' → R (.returned (.bool (decide (checkS s = 0)))) w') :
    Calls Try.prog 57 #[.slice (some ⟨k, 0, none⟩) 1 1] (w.alloc (.cells #[.string ⟨s.toArray⟩] 9)) R := by
  subst hk
  exact tIs_cps _ [s] _ R (by simp) (by simpa using hs) (rd1 w s) (by rw [allS_one]; exact hR)
set_option maxHeartbeats 2000000 in
theorem tKind_cps (s : List UInt8) (hs : s.length ≤ maxLen) (w : World) (R : Ending → World → Prop) (hR : ∀ w', Mod [] w w' → R (.returned (.int .u8 (kindS s))) w') :
    Calls Try.prog 76 #[.string ⟨s.toArray⟩] w R := by
  unfold kindS at hR
  refine calls_go 4000 okT Try.func76 rfl (rs := [.tmp 2]) rfl Try.ntmps76 (args := [.string ⟨s.toArray⟩]) ?_
  simp (config := { maxSteps := 1000000 }) (disch := first | omega | (simp only [sizeAlloc, sizeDrew, sizeSet, sizePut] <;> omega) | fail) only [GS1, GS2, GS3, GS4, GS5, GS6, GS7, GS8, GS9, GS10, GS11, TT_eq, TTl, Nat.reduceAdd, Nat.reduceMul, Nat.reduceSub, Nat.reduceDiv, Nat.reduceMod, Nat.reducePow, Nat.reduceEqDiff, ↓reduceIte, reduceCtorEq, true_and, and_true, and_self, false_and, and_false, Int.reduceToNat, Int.reduceAdd, Int.reduceSub, Int.reduceMul, cond_true, cond_false, List.toList_toArray, Option.map_some, Option.map_none, Option.some.injEq, List.cons_append, List.nil_append, List.length_cons, List.length_nil, List.getD_cons_zero, List.getD_cons_succ]
  refine ⟨fok57, tIs1_cps s hs w _ rfl _ fun w1 hM => .inl ⟨_, rfl, hold_ops okT (rs := [.tmp 2]) rfl ?_⟩⟩
  have hM1 := ((Mod.refl [] w).alloc _).trans hM (by simp)
  by_cases h : checkS s = 0
  · rw [decide_eq_true h]
    rw [if_pos h] at hR
    cases s with
    | nil => exact absurd h checkS_nil
    | cons c r =>
      have hk := kC_ix c
      have hk2 := kC_le c
      simp (config := { maxSteps := 1000000 }) (disch := first | omega | (simp only [sizeAlloc, sizeDrew, sizeSet, sizePut] <;> omega) | fail) only [GS1, GS2, GS3, GS4, GS5, GS6, GS7, GS8, GS9, GS10, GS11, TT_eq, TTl, Nat.reduceAdd, Nat.reduceMul, Nat.reduceSub, Nat.reduceDiv, Nat.reduceMod, Nat.reducePow, Nat.reduceEqDiff, ↓reduceIte, reduceCtorEq, true_and, and_true, and_self, false_and, and_false, Int.reduceToNat, Int.reduceAdd, Int.reduceSub, Int.reduceMul, cond_true, cond_false, List.toList_toArray, Option.map_some, Option.map_none, Option.some.injEq, List.cons_append, List.nil_append, List.length_cons, List.length_nil, List.getD_cons_zero, List.getD_cons_succ]
      refine ⟨fok95, sIndexByte_cps KL6 c _ _ (.inl ⟨_, rfl, hold_ops okT (rs := [.tmp 2]) rfl ?_⟩)⟩
      simp (config := { maxSteps := 1000000 }) (disch := first | omega | (simp only [sizeAlloc, sizeDrew, sizeSet, sizePut] <;> omega) | fail) only [GS1, GS2, GS3, GS4, GS5, GS6, GS7, GS8, GS9, GS10, GS11, TT_eq, TTl, Nat.reduceAdd, Nat.reduceMul, Nat.reduceSub, Nat.reduceDiv, Nat.reduceMod, Nat.reducePow, Nat.reduceEqDiff, ↓reduceIte, reduceCtorEq, true_and, and_true, and_self, false_and, and_false, Int.reduceToNat, Int.reduceAdd, Int.reduceSub, Int.reduceMul, cond_true, cond_false, List.toList_toArray, Option.map_some, Option.map_none, Option.some.injEq, List.cons_append, List.nil_append, List.length_cons, List.length_nil, List.getD_cons_zero, List.getD_cons_succ, hk]
      exact hR _ hM1
  · rw [decide_eq_false h]
    rw [if_neg h] at hR
    simp (config := { maxSteps := 1000000 }) (disch := first | omega | (simp only [sizeAlloc, sizeDrew, sizeSet, sizePut] <;> omega) | fail) only [GS1, GS2, GS3, GS4, GS5, GS6, GS7, GS8, GS9, GS10, GS11, TT_eq, TTl, Nat.reduceAdd, Nat.reduceMul, Nat.reduceSub, Nat.reduceDiv, Nat.reduceMod, Nat.reducePow, Nat.reduceEqDiff, ↓reduceIte, reduceCtorEq, true_and, and_true, and_self, false_and, and_false, Int.reduceToNat, Int.reduceAdd, Int.reduceSub, Int.reduceMul, cond_true, cond_false, List.toList_toArray, Option.map_some, Option.map_none, Option.some.injEq, List.cons_append, List.nil_append, List.length_cons, List.length_nil, List.getD_cons_zero, List.getD_cons_succ]
    exact hR _ hM1
set_option maxHeartbeats 2000000 in
theorem tText_cps (s : List UInt8) (hs : s.length ≤ maxLen) (w : World) (R : Ending → World → Prop) (hR : ∀ w', Mod [] w w' → R (.returned (.tuple #[.string ⟨(textS s).1.toArray⟩, .bool (textS s).2])) w') :
    Calls Try.prog 55 #[.string ⟨s.toArray⟩] w R := by
  have hs' := hs
  unfold maxLen at hs
  unfold textS at hR
  refine calls_go 4000 okT Try.func55 rfl (rs := [.tmp 2, .tmp 3]) rfl Try.ntmps55 (args := [.string ⟨s.toArray⟩]) ?_
  simp (config := { maxSteps := 1000000 }) (disch := first | omega | (simp only [sizeAlloc, sizeDrew, sizeSet, sizePut] <;> omega) | fail) only [GS1, GS2, GS3, GS4, GS5, GS6, GS7, GS8, GS9, GS10, GS11, TT_eq, TTl, Nat.reduceAdd, Nat.reduceMul, Nat.reduceSub, Nat.reduceDiv, Nat.reduceMod, Nat.reducePow, Nat.reduceEqDiff, ↓reduceIte, reduceCtorEq, true_and, and_true, and_self, false_and, and_false, Int.reduceToNat, Int.reduceAdd, Int.reduceSub, Int.reduceMul, cond_true, cond_false, List.toList_toArray, Option.map_some, Option.map_none, Option.some.injEq, List.cons_append, List.nil_append, List.length_cons, List.length_nil, List.getD_cons_zero, List.getD_cons_succ]
  refine ⟨fok76, tKind_cps s hs' w _ fun w1 hM => .inl ⟨_, rfl, hold_ops okT (rs := [.tmp 2, .tmp 3]) rfl ?_⟩⟩
  have h0 : kindS s ≠ 0 → s.length ≠ 0 := by
    intro h1 h2
    have : s = [] := List.eq_nil_of_length_eq_zero h2
    subst this
    exact h1 (by unfold kindS; rw [if_neg checkS_nil])
  have hk6 : kindS s ≤ 6 := by unfold kindS; split; exact kC_le _; omega
  generalize kindS s = k at hR h0 hk6 ⊢
  by_cases h : k = 1 ∨ k = 2
  · rw [if_pos h] at hR
    have hl := h0 (by omega)
    have hdl : (s.drop 1).length ≤ maxLen := by rw [List.length_drop]; unfold maxLen; omega
    rcases h with rfl | rfl
    · simp (config := { maxSteps := 1000000 }) (disch := first | omega | (simp only [sizeAlloc, sizeDrew, sizeSet, sizePut] <;> omega) | fail) only [GS1, GS2, GS3, GS4, GS5, GS6, GS7, GS8, GS9, GS10, GS11, TT_eq, TTl, Nat.reduceAdd, Nat.reduceMul, Nat.reduceSub, Nat.reduceDiv, Nat.reduceMod, Nat.reducePow, Nat.reduceEqDiff, ↓reduceIte, reduceCtorEq, true_and, and_true, and_self, false_and, and_false, Int.reduceToNat, Int.reduceAdd, Int.reduceSub, Int.reduceMul, cond_true, cond_false, List.toList_toArray, Option.map_some, Option.map_none, Option.some.injEq, List.cons_append, List.nil_append, List.length_cons, List.length_nil, List.getD_cons_zero, List.getD_cons_succ]
      refine ⟨fok77, oReadText_cps (s.drop 1) 1024 (by omega) hdl _ _ (.inl ⟨_, rfl, hold_ops okT (rs := [.tmp 2, .tmp 3]) rfl ?_⟩)⟩
      unfold rtV
      simp (config := { maxSteps := 1000000 }) (disch := first | omega | (simp only [sizeAlloc, sizeDrew, sizeSet, sizePut] <;> omega) | fail) only [GS1, GS2, GS3, GS4, GS5, GS6, GS7, GS8, GS9, GS10, GS11, TT_eq, TTl, Nat.reduceAdd, Nat.reduceMul, Nat.reduceSub, Nat.reduceDiv, Nat.reduceMod, Nat.reducePow, Nat.reduceEqDiff, ↓reduceIte, reduceCtorEq, true_and, and_true, and_self, false_and, and_false, Int.reduceToNat, Int.reduceAdd, Int.reduceSub, Int.reduceMul, cond_true, cond_false, List.toList_toArray, Option.map_some, Option.map_none, Option.some.injEq, List.cons_append, List.nil_append, List.length_cons, List.length_nil, List.getD_cons_zero, List.getD_cons_succ]
      exact hR _ hM
    · simp (config := { maxSteps := 1000000 }) (disch := first | omega | (simp only [sizeAlloc, sizeDrew, sizeSet, sizePut] <;> omega) | fail) only [GS1, GS2, GS3, GS4, GS5, GS6, GS7, GS8, GS9, GS10, GS11, TT_eq, TTl, Nat.reduceAdd, Nat.reduceMul, Nat.reduceSub, Nat.reduceDiv, Nat.reduceMod, Nat.reducePow, Nat.reduceEqDiff, ↓reduceIte, reduceCtorEq, true_and, and_true, and_self, false_and, and_false, Int.reduceToNat, Int.reduceAdd, Int.reduceSub, Int.reduceMul, cond_true, cond_false, List.toList_toArray, Option.map_some, Option.map_none, Option.some.injEq, List.cons_append, List.nil_append, List.length_cons, List.length_nil, List.getD_cons_zero, List.getD_cons_succ]
      refine ⟨fok77, oReadText_cps (s.drop 1) 1024 (by omega) hdl _ _ (.inl ⟨_, rfl, hold_ops okT (rs := [.tmp 2, .tmp 3]) rfl ?_⟩)⟩
      unfold rtV
      simp (config := { maxSteps := 1000000 }) (disch := first | omega | (simp only [sizeAlloc, sizeDrew, sizeSet, sizePut] <;> omega) | fail) only [GS1, GS2, GS3, GS4, GS5, GS6, GS7, GS8, GS9, GS10, GS11, TT_eq, TTl, Nat.reduceAdd, Nat.reduceMul, Nat.reduceSub, Nat.reduceDiv, Nat.reduceMod, Nat.reducePow, Nat.reduceEqDiff, ↓reduceIte, reduceCtorEq, true_and, and_true, and_self, false_and, and_false, Int.reduceToNat, Int.reduceAdd, Int.reduceSub, Int.reduceMul, cond_true, cond_false, List.toList_toArray, Option.map_some, Option.map_none, Option.some.injEq, List.cons_append, List.nil_append, List.length_cons, List.length_nil, List.getD_cons_zero, List.getD_cons_succ]
      exact hR _ hM
  · rw [if_neg h] at hR
    simp (config := { maxSteps := 1000000 }) (disch := first | omega | (simp only [sizeAlloc, sizeDrew, sizeSet, sizePut] <;> omega) | fail) only [GS1, GS2, GS3, GS4, GS5, GS6, GS7, GS8, GS9, GS10, GS11, TT_eq, TTl, Nat.reduceAdd, Nat.reduceMul, Nat.reduceSub, Nat.reduceDiv, Nat.reduceMod, Nat.reducePow, Nat.reduceEqDiff, ↓reduceIte, reduceCtorEq, true_and, and_true, and_self, false_and, and_false, Int.reduceToNat, Int.reduceAdd, Int.reduceSub, Int.reduceMul, cond_true, cond_false, List.toList_toArray, Option.map_some, Option.map_none, Option.some.injEq, List.cons_append, List.nil_append, List.length_cons, List.length_nil, List.getD_cons_zero, List.getD_cons_succ]
    exact hR _ hM
end Go.Proofs.Yticoollhaachfaa
