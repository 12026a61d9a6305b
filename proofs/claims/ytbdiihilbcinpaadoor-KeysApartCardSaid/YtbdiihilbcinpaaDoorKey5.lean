/-
  The law KeysNames (the walk); the plain facts for KeysApart.
-/
import Derived.Test.YtbdiihilbcinpaaDoorKey4
set_option linter.unusedSimpArgs false
set_option linter.unusedVariables false
namespace Go.Proofs.YtbdiihilbcinpaaDoor
open Go Go.Wk Go.RowKit
attribute [local irreducible] go Hold
theorem keyA_cases (k a b : Int) : ∃ (s : List UInt8) (e : Int), keyA k a b = .tuple #[.string ⟨s.toArray⟩, .int .i64 e] := by
  unfold keyA; split
  · exact ⟨_, _, rfl⟩
  · exact ⟨[], 2, rfl⟩
set_option maxRecDepth 20000 in
set_option maxHeartbeats 4000000 in
theorem knames_cps (a b : Int) (s : List UInt8) (w : World) (R : Ending → World → Prop) (hs : s.length ≤ maxLen) (hg : KG w) (hR : ∀ w', Mod [] w w' → R (.returned (.bool true)) w') :
    Calls Tryd.prog 4 #[.int .i64 a, .int .i64 b, .string ⟨s.toArray⟩] w R := by
  have hs' := hs
  unfold maxLen at hs
  by_cases h1000 : 1000 < s.length
  · refine calls_go 4000 okT Tryd.func4 rfl (rs := [.tmp 6]) rfl Tryd.ntmps4 (args := [.int .i64 a, .int .i64 b, .string ⟨s.toArray⟩]) ?_
    simp (config := { maxSteps := 1000000 }) (disch := first | omega | (simp only [sizeAlloc, sizeDrew, sizeSet, sizePut] <;> omega) | fail) only [GS1, GS2, GS3, GS4, GS5, GS6, GS7, GS8, GS9, GS10, TT_eq, TTl, Nat.reduceAdd, Nat.reduceMul, Nat.reduceSub, Nat.reduceDiv, Nat.reduceMod, Nat.reducePow, Nat.reduceEqDiff, ↓reduceIte, reduceCtorEq, true_and, and_true, and_self, false_and, and_false, Int.reduceToNat, Int.reduceAdd, Int.reduceSub, Int.reduceMul, cond_true, cond_false, List.toList_toArray, Option.map_some, Option.map_none, Option.some.injEq, List.cons_append, List.nil_append, List.length_cons, List.length_nil, List.getD_cons_zero, List.getD_cons_succ]
    refine ⟨fok6, kalive_cps _ _ hg fun w1 hM => .inl ⟨_, rfl, hold_ops okT (rs := [.tmp 6]) rfl ?_⟩⟩
    simp (config := { maxSteps := 1000000 }) (disch := first | omega | (simp only [sizeAlloc, sizeDrew, sizeSet, sizePut] <;> omega) | fail) only [GS1, GS2, GS3, GS4, GS5, GS6, GS7, GS8, GS9, GS10, TT_eq, TTl, Nat.reduceAdd, Nat.reduceMul, Nat.reduceSub, Nat.reduceDiv, Nat.reduceMod, Nat.reducePow, Nat.reduceEqDiff, ↓reduceIte, reduceCtorEq, true_and, and_true, and_self, false_and, and_false, Int.reduceToNat, Int.reduceAdd, Int.reduceSub, Int.reduceMul, cond_true, cond_false, List.toList_toArray, Option.map_some, Option.map_none, Option.some.injEq, List.cons_append, List.nil_append, List.length_cons, List.length_nil, List.getD_cons_zero, List.getD_cons_succ]
    exact hR _ hM
  · refine calls_go 4000 okT Tryd.func4 rfl (rs := [.tmp 6]) rfl Tryd.ntmps4 (args := [.int .i64 a, .int .i64 b, .string ⟨s.toArray⟩]) ?_
    simp (config := { maxSteps := 1000000 }) (disch := first | omega | (simp only [sizeAlloc, sizeDrew, sizeSet, sizePut] <;> omega) | fail) only [GS1, GS2, GS3, GS4, GS5, GS6, GS7, GS8, GS9, GS10, TT_eq, TTl, Nat.reduceAdd, Nat.reduceMul, Nat.reduceSub, Nat.reduceDiv, Nat.reduceMod, Nat.reducePow, Nat.reduceEqDiff, ↓reduceIte, reduceCtorEq, true_and, and_true, and_self, false_and, and_false, Int.reduceToNat, Int.reduceAdd, Int.reduceSub, Int.reduceMul, cond_true, cond_false, List.toList_toArray, Option.map_some, Option.map_none, Option.some.injEq, List.cons_append, List.nil_append, List.length_cons, List.length_nil, List.getD_cons_zero, List.getD_cons_succ]
    obtain ⟨s1, e1, h1⟩ := keyA_cases 1 a b
    obtain ⟨s2, e2, h2⟩ := keyA_cases 2 a b
    refine ⟨fok11, kTag_cps a b _ _ hg fun w1 hM1 => .inl ⟨_, rfl, hold_ops okT (rs := [.tmp 6]) rfl ?_⟩⟩
    have hg1 := hg.mod hM1 (by simp)
    rw [h1]
    simp (config := { maxSteps := 1000000 }) (disch := first | omega | (simp only [sizeAlloc, sizeDrew, sizeSet, sizePut] <;> omega) | fail) only [GS1, GS2, GS3, GS4, GS5, GS6, GS7, GS8, GS9, GS10, TT_eq, TTl, Nat.reduceAdd, Nat.reduceMul, Nat.reduceSub, Nat.reduceDiv, Nat.reduceMod, Nat.reducePow, Nat.reduceEqDiff, ↓reduceIte, reduceCtorEq, true_and, and_true, and_self, false_and, and_false, Int.reduceToNat, Int.reduceAdd, Int.reduceSub, Int.reduceMul, cond_true, cond_false, List.toList_toArray, Option.map_some, Option.map_none, Option.some.injEq, List.cons_append, List.nil_append, List.length_cons, List.length_nil, List.getD_cons_zero, List.getD_cons_succ]
    refine ⟨fok12, rTag_cps a b _ _ fun w2 hM2 => .inl ⟨_, rfl, hold_ops okT (rs := [.tmp 6]) rfl ?_⟩⟩
    have hg2 := hg1.mod hM2 (by simp)
    rw [h1]
    simp (config := { maxSteps := 1000000 }) (disch := first | omega | (simp only [sizeAlloc, sizeDrew, sizeSet, sizePut] <;> omega) | fail) only [GS1, GS2, GS3, GS4, GS5, GS6, GS7, GS8, GS9, GS10, TT_eq, TTl, Nat.reduceAdd, Nat.reduceMul, Nat.reduceSub, Nat.reduceDiv, Nat.reduceMod, Nat.reducePow, Nat.reduceEqDiff, ↓reduceIte, reduceCtorEq, true_and, and_true, and_self, false_and, and_false, Int.reduceToNat, Int.reduceAdd, Int.reduceSub, Int.reduceMul, cond_true, cond_false, List.toList_toArray, Option.map_some, Option.map_none, Option.some.injEq, List.cons_append, List.nil_append, List.length_cons, List.length_nil, List.getD_cons_zero, List.getD_cons_succ]
    refine ⟨fok13, kSeal_cps a b _ _ hg2 fun w3 hM3 => .inl ⟨_, rfl, hold_ops okT (rs := [.tmp 6]) rfl ?_⟩⟩
    have hg3 := hg2.mod hM3 (by simp)
    rw [h2]
    simp (config := { maxSteps := 1000000 }) (disch := first | omega | (simp only [sizeAlloc, sizeDrew, sizeSet, sizePut] <;> omega) | fail) only [GS1, GS2, GS3, GS4, GS5, GS6, GS7, GS8, GS9, GS10, TT_eq, TTl, Nat.reduceAdd, Nat.reduceMul, Nat.reduceSub, Nat.reduceDiv, Nat.reduceMod, Nat.reducePow, Nat.reduceEqDiff, ↓reduceIte, reduceCtorEq, true_and, and_true, and_self, false_and, and_false, Int.reduceToNat, Int.reduceAdd, Int.reduceSub, Int.reduceMul, cond_true, cond_false, List.toList_toArray, Option.map_some, Option.map_none, Option.some.injEq, List.cons_append, List.nil_append, List.length_cons, List.length_nil, List.getD_cons_zero, List.getD_cons_succ]
    refine ⟨fok14, rSeal_cps a b _ _ fun w4 hM4 => .inl ⟨_, rfl, hold_ops okT (rs := [.tmp 6]) rfl ?_⟩⟩
    have hg4 := hg3.mod hM4 (by simp)
    rw [h2]
    simp (config := { maxSteps := 1000000 }) (disch := first | omega | (simp only [sizeAlloc, sizeDrew, sizeSet, sizePut] <;> omega) | fail) only [GS1, GS2, GS3, GS4, GS5, GS6, GS7, GS8, GS9, GS10, TT_eq, TTl, Nat.reduceAdd, Nat.reduceMul, Nat.reduceSub, Nat.reduceDiv, Nat.reduceMod, Nat.reducePow, Nat.reduceEqDiff, ↓reduceIte, reduceCtorEq, true_and, and_true, and_self, false_and, and_false, Int.reduceToNat, Int.reduceAdd, Int.reduceSub, Int.reduceMul, cond_true, cond_false, List.toList_toArray, Option.map_some, Option.map_none, Option.some.injEq, List.cons_append, List.nil_append, List.length_cons, List.length_nil, List.getD_cons_zero, List.getD_cons_succ]
    refine ⟨fok15, kRead_cps s _ _ hs' hg4 fun w5 x hx hM5 => .inl ⟨_, rfl, hold_ops okT (rs := [.tmp 6]) rfl ?_⟩⟩
    have hg5 := hg4.mod hM5 (by simp)
    obtain ⟨xk, xl, xh, xy⟩ := x
    unfold raV
    simp (config := { maxSteps := 1000000 }) (disch := first | omega | (simp only [sizeAlloc, sizeDrew, sizeSet, sizePut] <;> omega) | fail) only [GS1, GS2, GS3, GS4, GS5, GS6, GS7, GS8, GS9, GS10, TT_eq, TTl, Nat.reduceAdd, Nat.reduceMul, Nat.reduceSub, Nat.reduceDiv, Nat.reduceMod, Nat.reducePow, Nat.reduceEqDiff, ↓reduceIte, reduceCtorEq, true_and, and_true, and_self, false_and, and_false, Int.reduceToNat, Int.reduceAdd, Int.reduceSub, Int.reduceMul, cond_true, cond_false, List.toList_toArray, Option.map_some, Option.map_none, Option.some.injEq, List.cons_append, List.nil_append, List.length_cons, List.length_nil, List.getD_cons_zero, List.getD_cons_succ]
    refine ⟨fok16, rRead_cps s _ _ fun w6 y hy hM6 => .inl ⟨_, rfl, hold_ops okT (rs := [.tmp 6]) rfl ?_⟩⟩
    have hg6 := hg5.mod hM6 (by simp)
    obtain rfl := hx.uniq hy
    have hM := ((((hM1.trans hM2 (by simp)).trans hM3 (by simp)).trans hM4 (by simp)).trans hM5 (by simp)).trans hM6 (by simp)
    unfold raV
    cases xy
    · simp (config := { maxSteps := 1000000 }) (disch := first | omega | (simp only [sizeAlloc, sizeDrew, sizeSet, sizePut] <;> omega) | fail) only [GS1, GS2, GS3, GS4, GS5, GS6, GS7, GS8, GS9, GS10, TT_eq, TTl, Nat.reduceAdd, Nat.reduceMul, Nat.reduceSub, Nat.reduceDiv, Nat.reduceMod, Nat.reducePow, Nat.reduceEqDiff, ↓reduceIte, reduceCtorEq, true_and, and_true, and_self, false_and, and_false, Int.reduceToNat, Int.reduceAdd, Int.reduceSub, Int.reduceMul, cond_true, cond_false, List.toList_toArray, Option.map_some, Option.map_none, Option.some.injEq, List.cons_append, List.nil_append, List.length_cons, List.length_nil, List.getD_cons_zero, List.getD_cons_succ, eq_self]
      refine ⟨fok6, kalive_cps _ _ hg6 fun w7 hM7 => .inl ⟨_, rfl, hold_ops okT (rs := [.tmp 6]) rfl ?_⟩⟩
      simp (config := { maxSteps := 1000000 }) (disch := first | omega | (simp only [sizeAlloc, sizeDrew, sizeSet, sizePut] <;> omega) | fail) only [GS1, GS2, GS3, GS4, GS5, GS6, GS7, GS8, GS9, GS10, TT_eq, TTl, Nat.reduceAdd, Nat.reduceMul, Nat.reduceSub, Nat.reduceDiv, Nat.reduceMod, Nat.reducePow, Nat.reduceEqDiff, ↓reduceIte, reduceCtorEq, true_and, and_true, and_self, false_and, and_false, Int.reduceToNat, Int.reduceAdd, Int.reduceSub, Int.reduceMul, cond_true, cond_false, List.toList_toArray, Option.map_some, Option.map_none, Option.some.injEq, List.cons_append, List.nil_append, List.length_cons, List.length_nil, List.getD_cons_zero, List.getD_cons_succ]
      exact hR _ (hM.trans hM7 (by simp))
    · simp (config := { maxSteps := 1000000 }) (disch := first | omega | (simp only [sizeAlloc, sizeDrew, sizeSet, sizePut] <;> omega) | fail) only [GS1, GS2, GS3, GS4, GS5, GS6, GS7, GS8, GS9, GS10, TT_eq, TTl, Nat.reduceAdd, Nat.reduceMul, Nat.reduceSub, Nat.reduceDiv, Nat.reduceMod, Nat.reducePow, Nat.reduceEqDiff, ↓reduceIte, reduceCtorEq, true_and, and_true, and_self, false_and, and_false, Int.reduceToNat, Int.reduceAdd, Int.reduceSub, Int.reduceMul, cond_true, cond_false, List.toList_toArray, Option.map_some, Option.map_none, Option.some.injEq, List.cons_append, List.nil_append, List.length_cons, List.length_nil, List.getD_cons_zero, List.getD_cons_succ, eq_self]
      refine ⟨fok6, kalive_cps _ _ hg6 fun w7 hM7 => .inl ⟨_, rfl, hold_ops okT (rs := [.tmp 6]) rfl ?_⟩⟩
      simp (config := { maxSteps := 1000000 }) (disch := first | omega | (simp only [sizeAlloc, sizeDrew, sizeSet, sizePut] <;> omega) | fail) only [GS1, GS2, GS3, GS4, GS5, GS6, GS7, GS8, GS9, GS10, TT_eq, TTl, Nat.reduceAdd, Nat.reduceMul, Nat.reduceSub, Nat.reduceDiv, Nat.reduceMod, Nat.reducePow, Nat.reduceEqDiff, ↓reduceIte, reduceCtorEq, true_and, and_true, and_self, false_and, and_false, Int.reduceToNat, Int.reduceAdd, Int.reduceSub, Int.reduceMul, cond_true, cond_false, List.toList_toArray, Option.map_some, Option.map_none, Option.some.injEq, List.cons_append, List.nil_append, List.length_cons, List.length_nil, List.getD_cons_zero, List.getD_cons_succ]
      exact hR _ (hM.trans hM7 (by simp))
theorem keyL_comm (k a b : Int) : keyL k b a = keyL k a b := by unfold keyL; rw [Int.min_comm, Int.max_comm]
theorem keyL_sort (k a b : Int) : keyL k (min a b) (max a b) = keyL k a b := by
  unfold keyL
  rw [show min (min a b) (max a b) = min a b by omega, show max (min a b) (max a b) = max a b by omega]
theorem keyL_iff {k a b c d : Int} (hk : k = 1 ∨ k = 2) (h1 : pairOk a b) (h2 : pairOk c d) : keyL k a b = keyL k c d ↔ min a b = min c d ∧ max a b = max c d := by
  constructor
  · intro h; exact (keyL_inj hk hk h1 h2 h).2
  · rintro ⟨e1, e2⟩; unfold keyL; rw [e1, e2]
theorem keyL_ne {a b c d : Int} (h1 : pairOk a b) (h2 : pairOk c d) : keyL 1 a b ≠ keyL 2 c d := fun h => by
  have := (keyL_inj (.inl rfl) (.inr rfl) h1 h2 h).1; omega
theorem mem_KL {v N : Nat} {k a b : Int} (hN : N ≤ 8) (hk : k = 1 ∨ k = 2) (hp : pairOk a b) : keyL k a b ∈ KL v (allL N 0) ↔ (a < N ∧ b < N) ∧ (inS v a = true ∨ inS v b = true) := by
  have hp' := hp
  obtain ⟨⟨a0, a8⟩, b0, b8⟩ := hp
  unfold KL
  simp only [List.mem_flatMap, Prod.exists, kl]
  constructor
  · rintro ⟨x, y, hxy, hm⟩
    rw [mem_allL] at hxy
    split at hm
    · rename_i hS
      have hq : pairOk (x : Int) (y : Int) := ⟨⟨by omega, by omega⟩, by omega, by omega⟩
      have hmm : min a b = min (x : Int) y ∧ max a b = max (x : Int) y := by
        simp only [List.mem_cons, List.not_mem_nil, or_false] at hm
        rcases hm with hm | hm
        · exact (keyL_inj hk (.inl rfl) hp' hq hm).2
        · exact (keyL_inj hk (.inr rfl) hp' hq hm).2
      refine ⟨by omega, ?_⟩
      simp only [Bool.or_eq_true] at hS
      by_cases hab : a ≤ b
      · have e1 : a = x := by omega
        have e2 : b = y := by omega
        rw [e1, e2]; exact hS
      · have e1 : b = x := by omega
        have e2 : a = y := by omega
        rw [e1, e2]; exact hS.symm
    · simp at hm
  · rintro ⟨⟨ha, hb⟩, hS⟩
    refine ⟨(min a b).toNat, (max a b).toNat, mem_allL.2 (by omega), ?_⟩
    have e1 : (((min a b).toNat : Nat) : Int) = min a b := by omega
    have e2 : (((max a b).toNat : Nat) : Int) = max a b := by omega
    rw [e1, e2, keyL_sort, keyL_sort]
    have hS' : (inS v (min a b) || inS v (max a b)) = true := by
      simp only [Bool.or_eq_true]
      by_cases hab : a ≤ b
      · rw [Int.min_eq_left hab, Int.max_eq_right hab]; exact hS
      · rw [Int.min_eq_right (by omega), Int.max_eq_left (by omega)]; exact hS.symm
    rw [if_pos hS']
    rcases hk with rfl | rfl <;> simp
theorem mem_OL {N : Nat} {k a c d : Int} (hN : N ≤ 8) (hk : k = 1 ∨ k = 2) (hp : pairOk c d) (a0 : 0 ≤ a) (aN : a < N) : keyL k c d ∈ OL a N ↔ c < N ∧ d < N ∧ (a = c ∨ a = d) := by
  have hp' := hp
  obtain ⟨⟨c0, c8⟩, d0, d8⟩ := hp
  unfold OL
  simp only [List.mem_flatMap, List.mem_range]
  constructor
  · rintro ⟨x, hx, hm⟩
    have hq : pairOk a (x : Int) := ⟨⟨by omega, by omega⟩, by omega, by omega⟩
    have hmm : min c d = min a (x : Int) ∧ max c d = max a (x : Int) := by
      simp only [List.mem_cons, List.not_mem_nil, or_false] at hm
      rcases hm with hm | hm
      · exact (keyL_inj hk (.inl rfl) hp' hq hm).2
      · exact (keyL_inj hk (.inr rfl) hp' hq hm).2
    omega
  · rintro ⟨hc, hd, hO⟩
    rcases hO with rfl | rfl
    · refine ⟨d.toNat, by omega, ?_⟩
      rw [show ((d.toNat : Nat) : Int) = d by omega]
      rcases hk with rfl | rfl <;> simp
    · refine ⟨c.toNat, by omega, ?_⟩
      rw [show ((c.toNat : Nat) : Int) = c by omega, keyL_comm 1 c a, keyL_comm 2 c a]
      rcases hk with rfl | rfl <;> simp
theorem beq2_self (b : Bool) : beq2 b b = true := by cases b <;> rfl
end Go.Proofs.YtbdiihilbcinpaaDoor
