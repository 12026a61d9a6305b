/-
  The law WindowOnce: each nonce is taken at most once (the walk).
-/
import Derived.Test.YtechabbdobbooaaWin5
set_option linter.unusedSimpArgs false
set_option linter.unusedVariables false
namespace Go.Proofs.Ytechabbdobbooaa
open Go Go.Wk Go.RowKit
attribute [local irreducible] go Hold
set_option maxRecDepth 20000 in
set_option maxHeartbeats 4000000 in
theorem once_cps (sl : Value) (l : List Int) (w : World) (R : Ending → World → Prop) (hl : Rd w 1 sl l.length (l.map (Value.int .i64))) (hx : l.length ≤ 9223372036854775807)
    (hR : ∀ w', Mod [] w w' → R (.returned (.bool true)) w') : Calls Try.prog 3 #[sl] w R := by
  obtain ⟨a, ca, rfl⟩ := hl.slice
  by_cases h300 : 300 < l.length
  · refine calls_go 4000 okT Try.func3 rfl (rs := [.tmp 2]) rfl Try.ntmps3 (args := [.slice a l.length ca]) ?_
    simp (disch := omega) only [GS1, GS2, GS3, GS4, GS5, GS6, GS7, GS8, GS9, GS10, TT_eq, TTl, Nat.reduceAdd, Nat.reduceMul, Nat.reduceSub, Nat.reduceDiv, Nat.reduceMod, Nat.reducePow, Nat.reduceEqDiff, ↓reduceIte, reduceCtorEq, true_and, and_true, and_self, false_and, and_false, Int.reduceToNat, Int.reduceAdd, Int.reduceSub, Int.reduceMul, cond_true, cond_false, List.toList_toArray, Option.map_some, Option.map_none, Option.some.injEq, List.cons_append, List.nil_append]
    refine ⟨fok7, alive_cps _ _ fun w1 hM => .inl ⟨_, rfl, hold_ops okT (rs := [.tmp 2]) rfl ?_⟩⟩
    simp (disch := omega) only [GS1, GS2, GS3, GS4, GS5, GS6, GS7, GS8, GS9, GS10, TT_eq, TTl, Nat.reduceAdd, Nat.reduceMul, Nat.reduceSub, Nat.reduceDiv, Nat.reduceMod, Nat.reducePow, Nat.reduceEqDiff, ↓reduceIte, reduceCtorEq, true_and, and_true, and_self, false_and, and_false, Int.reduceToNat, Int.reduceAdd, Int.reduceSub, Int.reduceMul, cond_true, cond_false, List.toList_toArray, Option.map_some, Option.map_none, Option.some.injEq, List.cons_append, List.nil_append]
    exact hR _ hM
  · refine calls_go 4000 okT Try.func3 rfl (rs := [.tmp 2]) rfl Try.ntmps3 (args := [.slice a l.length ca]) ?_
    simp (disch := omega) only [GS1, GS2, GS3, GS4, GS5, GS6, GS7, GS8, GS9, GS10, TT_eq, TTl, Nat.reduceAdd, Nat.reduceMul, Nat.reduceSub, Nat.reduceDiv, Nat.reduceMod, Nat.reducePow, Nat.reduceEqDiff, ↓reduceIte, reduceCtorEq, true_and, and_true, and_self, false_and, and_false, Int.reduceToNat, Int.reduceAdd, Int.reduceSub, Int.reduceMul, cond_true, cond_false, List.toList_toArray, Option.map_some, Option.map_none, Option.some.injEq, List.cons_append, List.nil_append]
    refine ⟨fok8, New_cps _ _ fun hw => .inl ⟨_, rfl, hold_ops okT (rs := [.tmp 2]) rfl ?_⟩⟩
    have hM0 : Mod [] w (w.alloc (.cells #[.int .i64 0, .int .u64 0] 59)) := (Mod.refl _ _).alloc _
    generalize w.alloc (.cells #[.int .i64 0, .int .u64 0] 59) = w1 at hM0 hw ⊢
    simp (disch := omega) only [GS1, GS2, GS3, GS4, GS5, GS6, GS7, GS8, GS9, GS10, TT_eq, TTl, Nat.reduceAdd, Nat.reduceMul, Nat.reduceSub, Nat.reduceDiv, Nat.reduceMod, Nat.reducePow, Nat.reduceEqDiff, ↓reduceIte, reduceCtorEq, true_and, and_true, and_self, false_and, and_false, Int.reduceToNat, Int.reduceAdd, Int.reduceSub, Int.reduceMul, cond_true, cond_false, List.toList_toArray, Option.map_some, Option.map_none, Option.some.injEq, List.cons_append, List.nil_append]
    refine hold_loop okT (rs := [.tmp 2]) rfl [4, 5] [2, 6, 7, 8, 9, 10, 18, 19, 20, 21, 22, 23, 24, 25, 26, 27, 28, 29, 30, 31, 32, 33, 34, 35, 36, 37, 38, 39, 40, 41, 42, 43, 44, 45, 46, 47, 48, 49, 50, 51, 52, 53, 54, 55, 56, 57, 58, 59, 60, 61, 62, 63, 64, 65, 66, 67, 68, 69, 70, 71, 72, 73, 74] (fun vs w' => ∃ (k : Nat) (xs : List Int) (sv : Value) (t : Int) (v : Nat), k ≤ l.length ∧ vs = [sv, .int .i64 k] ∧ xs.length ≤ k ∧ w'.ownsRow (w.heap.size + 1) 3 1 sv xs.length (xs.map (Value.int .i64)) ∧ isWin w' w.heap.size t v ∧ WRel t v xs ∧ Mod [] w w' ∧ w.heap.size + 1 ≤ w'.heap.size)
      (fun vs _ => match vs with | [_, .int _ i] => l.length - i.toNat | _ => 0) (by kernel_rfl) ⟨0, [], .slice none 0 0, 0, 0, by omega, rfl, by simp, World.ownsRow_nil _ _ _ _, hw, WRel.nil, hM0, ltOf hw⟩ ?_
    rintro vs w' J ⟨k, xs, sv, t, v, hk, rfl, hxs, hown, hw', hrel, hM, hsz⟩
    by_cases hlt : k < l.length
    · obtain ⟨b1, o1, c1, e1, _, g1⟩ := (hl.mod hM (by simp)).at (by omega) (by omega)
      have f1 := g1 k _ (getI hlt)
      rw [Value.slice.injEq] at e1
      obtain ⟨rfl, -, -⟩ := e1
      have hu := IntKind.wrap_u64 l[k]
      have hq0 : 0 ≤ (IntKind.u64.wrap l[k]).tmod 65535 := Int.tmod_nonneg _ (by rw [hu]; omega)
      have hq1 : (IntKind.u64.wrap l[k]).tmod 65535 < 65535 := Int.tmod_lt_of_pos _ (by omega)
      clear hu
      obtain ⟨a2, c2, rfl⟩ : ∃ a2 c2, sv = .slice a2 xs.length c2 := (Rd.own hown).slice
      simp (disch := omega) only [GS1, GS2, GS3, GS4, GS5, GS6, GS7, GS8, GS9, GS10, TT_eq, TTl, Nat.reduceAdd, Nat.reduceMul, Nat.reduceSub, Nat.reduceDiv, Nat.reduceMod, Nat.reducePow, Nat.reduceEqDiff, ↓reduceIte, reduceCtorEq, true_and, and_true, and_self, false_and, and_false, Int.reduceToNat, Int.reduceAdd, Int.reduceSub, Int.reduceMul, cond_true, cond_false, List.toList_toArray, Option.map_some, Option.map_none, Option.some.injEq, List.cons_append, List.nil_append, f1]
      generalize hn : (1 : Int) + (IntKind.u64.wrap l[k]).tmod 65535 = n
      have hn1 : 1 ≤ n := by omega
      have hn2 : n ≤ 65535 := by omega
      clear hn hq0 hq1 f1
      refine hold_loop okT (rs := [.tmp 2]) rfl [7, 8] [32, 33, 34, 35, 36, 37, 38, 39, 40, 41, 42, 43, 44, 45, 46] (fun vs w'' => ∃ (j : Nat) (b : Bool), j ≤ xs.length ∧ vs = [.bool b, .int .i64 j] ∧ w'' = w' ∧ (b = true ↔ n ∈ xs.take j))
        (fun vs _ => match vs with | [_, .int _ i] => xs.length - i.toNat | _ => 0) (by kernel_rfl) ⟨0, false, by omega, rfl, rfl, by simp⟩ ?_
      rintro vs w'' J ⟨j, b, hj, rfl, rfl, hb⟩
      by_cases hjl : j < xs.length
      · obtain ⟨b1, o1, c1, e1, _, g1⟩ := (Rd.own hown).at (by omega) (by omega)
        have f1 := g1 j _ (getI hjl)
        rw [Value.slice.injEq] at e1
        obtain ⟨rfl, -, -⟩ := e1
        have ht := List.take_succ_eq_append_getElem hjl
        cases b
        · by_cases he : xs[j] = n
          · simp (disch := omega) only [GS1, GS2, GS3, GS4, GS5, GS6, GS7, GS8, GS9, GS10, TT_eq, TTl, Nat.reduceAdd, Nat.reduceMul, Nat.reduceSub, Nat.reduceDiv, Nat.reduceMod, Nat.reducePow, Nat.reduceEqDiff, ↓reduceIte, reduceCtorEq, true_and, and_true, and_self, false_and, and_false, Int.reduceToNat, Int.reduceAdd, Int.reduceSub, Int.reduceMul, cond_true, cond_false, List.toList_toArray, Option.map_some, Option.map_none, Option.some.injEq, List.cons_append, List.nil_append, f1, he]
            refine ⟨⟨j + 1, true, by omega, rfl, ?_⟩, by omega⟩
            rw [ht, he]; simp
          · simp (disch := omega) only [GS1, GS2, GS3, GS4, GS5, GS6, GS7, GS8, GS9, GS10, TT_eq, TTl, Nat.reduceAdd, Nat.reduceMul, Nat.reduceSub, Nat.reduceDiv, Nat.reduceMod, Nat.reducePow, Nat.reduceEqDiff, ↓reduceIte, reduceCtorEq, true_and, and_true, and_self, false_and, and_false, Int.reduceToNat, Int.reduceAdd, Int.reduceSub, Int.reduceMul, cond_true, cond_false, List.toList_toArray, Option.map_some, Option.map_none, Option.some.injEq, List.cons_append, List.nil_append, f1, he]
            refine ⟨⟨j + 1, false, by omega, rfl, ?_⟩, by omega⟩
            rw [ht, List.mem_append, ← hb]; simp; omega
        · simp (disch := omega) only [GS1, GS2, GS3, GS4, GS5, GS6, GS7, GS8, GS9, GS10, TT_eq, TTl, Nat.reduceAdd, Nat.reduceMul, Nat.reduceSub, Nat.reduceDiv, Nat.reduceMod, Nat.reducePow, Nat.reduceEqDiff, ↓reduceIte, reduceCtorEq, true_and, and_true, and_self, false_and, and_false, Int.reduceToNat, Int.reduceAdd, Int.reduceSub, Int.reduceMul, cond_true, cond_false, List.toList_toArray, Option.map_some, Option.map_none, Option.some.injEq, List.cons_append, List.nil_append, f1]
          refine ⟨⟨j + 1, true, by omega, rfl, ?_⟩, by omega⟩
          rw [ht, List.mem_append, ← hb]; simp
      · have e : j = xs.length := by omega
        subst e
        rw [List.take_length] at hb
        simp (disch := omega) only [GS1, GS2, GS3, GS4, GS5, GS6, GS7, GS8, GS9, GS10, TT_eq, TTl, Nat.reduceAdd, Nat.reduceMul, Nat.reduceSub, Nat.reduceDiv, Nat.reduceMod, Nat.reducePow, Nat.reduceEqDiff, ↓reduceIte, reduceCtorEq, true_and, and_true, and_self, false_and, and_false, Int.reduceToNat, Int.reduceAdd, Int.reduceSub, Int.reduceMul, cond_true, cond_false, List.toList_toArray, Option.map_some, Option.map_none, Option.some.injEq, List.cons_append, List.nil_append]
        have hmay := hrel.may hn1 hn2
        have r0 := hrel.t0; have r1 := hrel.t1; have r2 := hrel.v1
        refine ⟨fok9, Top_cps _ _ _ _ _ hw' (.inl ⟨_, rfl, hold_ops okT (rs := [.tmp 2]) rfl ?_⟩)⟩
        by_cases ht : t < n
        · simp (disch := omega) only [GS1, GS2, GS3, GS4, GS5, GS6, GS7, GS8, GS9, GS10, TT_eq, TTl, Nat.reduceAdd, Nat.reduceMul, Nat.reduceSub, Nat.reduceDiv, Nat.reduceMod, Nat.reducePow, Nat.reduceEqDiff, ↓reduceIte, reduceCtorEq, true_and, and_true, and_self, false_and, and_false, Int.reduceToNat, Int.reduceAdd, Int.reduceSub, Int.reduceMul, cond_true, cond_false, List.toList_toArray, Option.map_some, Option.map_none, Option.some.injEq, List.cons_append, List.nil_append]
          refine ⟨fok10, Take_all _ _ (t, v) _ _ ⟨r0, r1, r2⟩ hw' fun w2 h2 hM2 => .inl ⟨_, rfl, hold_ops okT (rs := [.tmp 2]) rfl ?_⟩⟩
          cases b
          · have hm : mayC t v n = 0 := hmay.2 ⟨.inl ht, by simpa using hb⟩
            simp (disch := omega) only [GS1, GS2, GS3, GS4, GS5, GS6, GS7, GS8, GS9, GS10, TT_eq, TTl, Nat.reduceAdd, Nat.reduceMul, Nat.reduceSub, Nat.reduceDiv, Nat.reduceMod, Nat.reducePow, Nat.reduceEqDiff, ↓reduceIte, reduceCtorEq, true_and, and_true, and_self, false_and, and_false, Int.reduceToNat, Int.reduceAdd, Int.reduceSub, Int.reduceMul, cond_true, cond_false, List.toList_toArray, Option.map_some, Option.map_none, Option.some.injEq, List.cons_append, List.nil_append, hm]
            have hown2 := ownsRow_mod hown hM2 (by simp <;> omega)
            refine hold_append1 okT (by rfl) (by rfl) (by rfl) (by rfl) (by rfl) _ hown2 (by rfl) (by rfl) (by rfl) (Nat.le_trans (Nat.mul_le_mul_right _ (show xs.length + 1 ≤ 301 by omega)) (by decide)) (by unfold maxLen; omega) (by have := hM2.size; omega) fun sv' w3 hown3 hM3 hnn => ?_
            refine hold_ops okT (rs := [.tmp 2]) rfl ?_
            have h3 : isWin w3 w.heap.size (tk (t, v) n).1 (tk (t, v) n).2 := hM3.get h2 (fun hx => by have := (hown2.lt _ (by simpa using hx)).1; omega)
            have hMf : Mod [] w w3 := (hM.trans hM2 (by simp <;> omega)).trans hM3 (fun y hy => .inr (by have := (hown2.lt y (by simpa using hy)).1; omega))
            have hT : tk (t, v) n = (max t n, takeV t v n) := by unfold tk; rw [if_pos hm]
            rw [hT] at h3
            simp (disch := omega) only [GS1, GS2, GS3, GS4, GS5, GS6, GS7, GS8, GS9, GS10, TT_eq, TTl, Nat.reduceAdd, Nat.reduceMul, Nat.reduceSub, Nat.reduceDiv, Nat.reduceMod, Nat.reducePow, Nat.reduceEqDiff, ↓reduceIte, reduceCtorEq, true_and, and_true, and_self, false_and, and_false, Int.reduceToNat, Int.reduceAdd, Int.reduceSub, Int.reduceMul, cond_true, cond_false, List.toList_toArray, Option.map_some, Option.map_none, Option.some.injEq, List.cons_append, List.nil_append]
            exact ⟨⟨k + 1, xs ++ [n], sv', _, _, by omega, rfl, by simp; omega, by simpa using hown3, h3, hrel.take hm, hMf, by have := hM2.size; have := hM3.size; omega⟩, by omega⟩
          · have hm : mayC t v n ≠ 0 := fun h => (hmay.1 h).2 (by simpa using hb)
            simp (disch := omega) only [GS1, GS2, GS3, GS4, GS5, GS6, GS7, GS8, GS9, GS10, TT_eq, TTl, Nat.reduceAdd, Nat.reduceMul, Nat.reduceSub, Nat.reduceDiv, Nat.reduceMod, Nat.reducePow, Nat.reduceEqDiff, ↓reduceIte, reduceCtorEq, true_and, and_true, and_self, false_and, and_false, Int.reduceToNat, Int.reduceAdd, Int.reduceSub, Int.reduceMul, cond_true, cond_false, List.toList_toArray, Option.map_some, Option.map_none, Option.some.injEq, List.cons_append, List.nil_append, hm]
            have hT : tk (t, v) n = (t, v) := by unfold tk; rw [if_neg hm]
            rw [hT] at h2
            exact ⟨⟨k + 1, xs, _, t, v, by omega, rfl, by omega, ownsRow_mod hown hM2 (by simp <;> omega), h2, hrel, hM.trans hM2 (by simp <;> omega), by have := hM2.size; omega⟩, by omega⟩
        · simp (disch := omega) only [GS1, GS2, GS3, GS4, GS5, GS6, GS7, GS8, GS9, GS10, TT_eq, TTl, Nat.reduceAdd, Nat.reduceMul, Nat.reduceSub, Nat.reduceDiv, Nat.reduceMod, Nat.reducePow, Nat.reduceEqDiff, ↓reduceIte, reduceCtorEq, true_and, and_true, and_self, false_and, and_false, Int.reduceToNat, Int.reduceAdd, Int.reduceSub, Int.reduceMul, cond_true, cond_false, List.toList_toArray, Option.map_some, Option.map_none, Option.some.injEq, List.cons_append, List.nil_append]
          refine ⟨fok9, Top_cps _ _ _ _ _ hw' (.inl ⟨_, rfl, hold_ops okT (rs := [.tmp 2]) rfl ?_⟩)⟩
          by_cases h64 : t - n < 64
          · simp (disch := omega) only [GS1, GS2, GS3, GS4, GS5, GS6, GS7, GS8, GS9, GS10, TT_eq, TTl, Nat.reduceAdd, Nat.reduceMul, Nat.reduceSub, Nat.reduceDiv, Nat.reduceMod, Nat.reducePow, Nat.reduceEqDiff, ↓reduceIte, reduceCtorEq, true_and, and_true, and_self, false_and, and_false, Int.reduceToNat, Int.reduceAdd, Int.reduceSub, Int.reduceMul, cond_true, cond_false, List.toList_toArray, Option.map_some, Option.map_none, Option.some.injEq, List.cons_append, List.nil_append]
            refine ⟨fok10, Take_all _ _ (t, v) _ _ ⟨r0, r1, r2⟩ hw' fun w2 h2 hM2 => .inl ⟨_, rfl, hold_ops okT (rs := [.tmp 2]) rfl ?_⟩⟩
            cases b
            · have hm : mayC t v n = 0 := hmay.2 ⟨.inr h64, by simpa using hb⟩
              simp (disch := omega) only [GS1, GS2, GS3, GS4, GS5, GS6, GS7, GS8, GS9, GS10, TT_eq, TTl, Nat.reduceAdd, Nat.reduceMul, Nat.reduceSub, Nat.reduceDiv, Nat.reduceMod, Nat.reducePow, Nat.reduceEqDiff, ↓reduceIte, reduceCtorEq, true_and, and_true, and_self, false_and, and_false, Int.reduceToNat, Int.reduceAdd, Int.reduceSub, Int.reduceMul, cond_true, cond_false, List.toList_toArray, Option.map_some, Option.map_none, Option.some.injEq, List.cons_append, List.nil_append, hm]
              have hown2 := ownsRow_mod hown hM2 (by simp <;> omega)
              refine hold_append1 okT (by rfl) (by rfl) (by rfl) (by rfl) (by rfl) _ hown2 (by rfl) (by rfl) (by rfl) (Nat.le_trans (Nat.mul_le_mul_right _ (show xs.length + 1 ≤ 301 by omega)) (by decide)) (by unfold maxLen; omega) (by have := hM2.size; omega) fun sv' w3 hown3 hM3 hnn => ?_
              refine hold_ops okT (rs := [.tmp 2]) rfl ?_
              have h3 : isWin w3 w.heap.size (tk (t, v) n).1 (tk (t, v) n).2 := hM3.get h2 (fun hx => by have := (hown2.lt _ (by simpa using hx)).1; omega)
              have hMf : Mod [] w w3 := (hM.trans hM2 (by simp <;> omega)).trans hM3 (fun y hy => .inr (by have := (hown2.lt y (by simpa using hy)).1; omega))
              have hT : tk (t, v) n = (max t n, takeV t v n) := by unfold tk; rw [if_pos hm]
              rw [hT] at h3
              simp (disch := omega) only [GS1, GS2, GS3, GS4, GS5, GS6, GS7, GS8, GS9, GS10, TT_eq, TTl, Nat.reduceAdd, Nat.reduceMul, Nat.reduceSub, Nat.reduceDiv, Nat.reduceMod, Nat.reducePow, Nat.reduceEqDiff, ↓reduceIte, reduceCtorEq, true_and, and_true, and_self, false_and, and_false, Int.reduceToNat, Int.reduceAdd, Int.reduceSub, Int.reduceMul, cond_true, cond_false, List.toList_toArray, Option.map_some, Option.map_none, Option.some.injEq, List.cons_append, List.nil_append]
              exact ⟨⟨k + 1, xs ++ [n], sv', _, _, by omega, rfl, by simp; omega, by simpa using hown3, h3, hrel.take hm, hMf, by have := hM2.size; have := hM3.size; omega⟩, by omega⟩
            · have hm : mayC t v n ≠ 0 := fun h => (hmay.1 h).2 (by simpa using hb)
              simp (disch := omega) only [GS1, GS2, GS3, GS4, GS5, GS6, GS7, GS8, GS9, GS10, TT_eq, TTl, Nat.reduceAdd, Nat.reduceMul, Nat.reduceSub, Nat.reduceDiv, Nat.reduceMod, Nat.reducePow, Nat.reduceEqDiff, ↓reduceIte, reduceCtorEq, true_and, and_true, and_self, false_and, and_false, Int.reduceToNat, Int.reduceAdd, Int.reduceSub, Int.reduceMul, cond_true, cond_false, List.toList_toArray, Option.map_some, Option.map_none, Option.some.injEq, List.cons_append, List.nil_append, hm]
              have hT : tk (t, v) n = (t, v) := by unfold tk; rw [if_neg hm]
              rw [hT] at h2
              exact ⟨⟨k + 1, xs, _, t, v, by omega, rfl, by omega, ownsRow_mod hown hM2 (by simp <;> omega), h2, hrel, hM.trans hM2 (by simp <;> omega), by have := hM2.size; omega⟩, by omega⟩
          · have hm : mayC t v n ≠ 0 := fun h => by have := (hmay.1 h).1; omega
            simp (disch := omega) only [GS1, GS2, GS3, GS4, GS5, GS6, GS7, GS8, GS9, GS10, TT_eq, TTl, Nat.reduceAdd, Nat.reduceMul, Nat.reduceSub, Nat.reduceDiv, Nat.reduceMod, Nat.reducePow, Nat.reduceEqDiff, ↓reduceIte, reduceCtorEq, true_and, and_true, and_self, false_and, and_false, Int.reduceToNat, Int.reduceAdd, Int.reduceSub, Int.reduceMul, cond_true, cond_false, List.toList_toArray, Option.map_some, Option.map_none, Option.some.injEq, List.cons_append, List.nil_append]
            refine ⟨fok10, Take_all _ _ (t, v) _ _ ⟨r0, r1, r2⟩ hw' fun w2 h2 hM2 => .inl ⟨_, rfl, hold_ops okT (rs := [.tmp 2]) rfl ?_⟩⟩
            simp (disch := omega) only [GS1, GS2, GS3, GS4, GS5, GS6, GS7, GS8, GS9, GS10, TT_eq, TTl, Nat.reduceAdd, Nat.reduceMul, Nat.reduceSub, Nat.reduceDiv, Nat.reduceMod, Nat.reducePow, Nat.reduceEqDiff, ↓reduceIte, reduceCtorEq, true_and, and_true, and_self, false_and, and_false, Int.reduceToNat, Int.reduceAdd, Int.reduceSub, Int.reduceMul, cond_true, cond_false, List.toList_toArray, Option.map_some, Option.map_none, Option.some.injEq, List.cons_append, List.nil_append, hm]
            have hT : tk (t, v) n = (t, v) := by unfold tk; rw [if_neg hm]
            rw [hT] at h2
            exact ⟨⟨k + 1, xs, _, t, v, by omega, rfl, by omega, ownsRow_mod hown hM2 (by simp <;> omega), h2, hrel, hM.trans hM2 (by simp <;> omega), by have := hM2.size; omega⟩, by omega⟩
    · have e : k = l.length := by omega
      subst e
      simp (disch := omega) only [GS1, GS2, GS3, GS4, GS5, GS6, GS7, GS8, GS9, GS10, TT_eq, TTl, Nat.reduceAdd, Nat.reduceMul, Nat.reduceSub, Nat.reduceDiv, Nat.reduceMod, Nat.reducePow, Nat.reduceEqDiff, ↓reduceIte, reduceCtorEq, true_and, and_true, and_self, false_and, and_false, Int.reduceToNat, Int.reduceAdd, Int.reduceSub, Int.reduceMul, cond_true, cond_false, List.toList_toArray, Option.map_some, Option.map_none, Option.some.injEq, List.cons_append, List.nil_append]
      refine ⟨fok7, alive_cps _ _ fun w1 hM1 => .inl ⟨_, rfl, hold_ops okT (rs := [.tmp 2]) rfl ?_⟩⟩
      simp (disch := omega) only [GS1, GS2, GS3, GS4, GS5, GS6, GS7, GS8, GS9, GS10, TT_eq, TTl, Nat.reduceAdd, Nat.reduceMul, Nat.reduceSub, Nat.reduceDiv, Nat.reduceMod, Nat.reducePow, Nat.reduceEqDiff, ↓reduceIte, reduceCtorEq, true_and, and_true, and_self, false_and, and_false, Int.reduceToNat, Int.reduceAdd, Int.reduceSub, Int.reduceMul, cond_true, cond_false, List.toList_toArray, Option.map_some, Option.map_none, Option.some.injEq, List.cons_append, List.nil_append]
      exact hR _ (hM.trans hM1 (by simp))
end Go.Proofs.Ytechabbdobbooaa
