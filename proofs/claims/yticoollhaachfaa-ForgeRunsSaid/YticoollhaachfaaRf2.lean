/-
  What the reference says of a step's numbers: May (walk).
-/
import Derived.Test.YticoollhaachfaaRf1
set_option linter.unusedSimpArgs false
set_option linter.unusedVariables false
namespace Go.Proofs.Yticoollhaachfaa
open Go Go.Wk Go.RowKit
attribute [local irreducible] go Hold
open Go.Lib
set_option maxRecDepth 20000 in
set_option maxHeartbeats 8000000 in
theorem rMayS_cps (x : Stp) (n : Nat) (hn : n ≤ 100000) (w : World) (R : Ending → World → Prop) (hx : StpIn w x) (hR : ∀ w', Mod [] w w' → R (.returned (.bool (mayS x n))) w') :
    Calls Try.prog 23 #[.agg (stpC x).toArray, .int .i64 n] w R := by
  have hM := (Mod.refl [] w).alloc (.cells (stpC x).toArray 46)
  have hR := hR _ hM
  obtain ⟨xo, xcap, hsv⟩ := hx.rd.slice
  have hrd := hx.rd.mod hM (by simp)
  have hbx : (w.alloc (.cells (stpC x).toArray 46)).heap[w.heap.size]? = some (.cells (stpC x).toArray 46 (0, 0)) := heapNew
  have hxl := hx.len
  have hxt := hx.text
  have hxd := hx.d
  unfold maxLen at hxt
  rw [hsv] at hrd
  refine calls_go 4000 okT Try.func23 rfl (rs := [.tmp 4]) rfl Try.ntmps23 (args := [.agg (stpC x).toArray, .int .i64 n]) ?_
  simp (config := { maxSteps := 1000000 }) (disch := first | omega | (simp only [sizeAlloc, sizeDrew, sizeSet, sizePut] <;> omega) | fail) only [GS1, GS2, GS3, GS4, GS5, GS6, GS7, GS8, GS9, GS10, GS11, TT_eq, TTl, Nat.reduceAdd, Nat.reduceMul, Nat.reduceSub, Nat.reduceDiv, Nat.reduceMod, Nat.reducePow, Nat.reduceEqDiff, ↓reduceIte, reduceCtorEq, true_and, and_true, and_self, false_and, and_false, Int.reduceToNat, Int.reduceAdd, Int.reduceSub, Int.reduceMul, cond_true, cond_false, List.toList_toArray, Option.map_some, Option.map_none, Option.some.injEq, List.cons_append, List.nil_append, List.length_cons, List.length_nil, List.getD_cons_zero, List.getD_cons_succ, st0, st1, st2, st3, st4, st5, st6]
  generalize w.alloc _ = w1 at *
  generalize w.heap.size = bx at *
  have q0 : w1.cell? ⟨bx, 0, none⟩ = some (.int .u8 x.d) := by rw [cellOf hbx]; rfl
  have q1 : w1.cell? ⟨bx, 1, none⟩ = some (.int .i64 x.a) := by rw [cellOf hbx]; rfl
  have q2 : w1.cell? ⟨bx, 2, none⟩ = some (.int .i64 x.b) := by rw [cellOf hbx]; rfl
  have q3 : w1.cell? ⟨bx, 3, none⟩ = some (.int .i64 x.c) := by rw [cellOf hbx]; rfl
  have q4 : w1.cell? ⟨bx, 4, none⟩ = some (.int .i64 x.n) := by rw [cellOf hbx]; rfl
  have q5 : w1.cell? ⟨bx, 5, none⟩ = some (.string ⟨x.text.toArray⟩) := by rw [cellOf hbx]; rfl
  have q6 : w1.cell? ⟨bx, 6, none⟩ = some (.slice xo x.list.length xcap) := by rw [cellOf hbx, ← hsv]; rfl
  clear hbx hM
  refine ⟨fok40, rNames_cps x.d hx.d _ _ (.inl ⟨_, rfl, hold_ops okT (rs := [.tmp 4]) rfl ?_⟩)⟩
  unfold mayS at hR
  unfold nmsV
  cases hnm : namesS x.d with
  | none =>
    rw [hnm] at hR
    simp (config := { maxSteps := 1000000 }) (disch := first | omega | (simp only [sizeAlloc, sizeDrew, sizeSet, sizePut] <;> omega) | fail) only [GS1, GS2, GS3, GS4, GS5, GS6, GS7, GS8, GS9, GS10, GS11, TT_eq, TTl, Nat.reduceAdd, Nat.reduceMul, Nat.reduceSub, Nat.reduceDiv, Nat.reduceMod, Nat.reducePow, Nat.reduceEqDiff, ↓reduceIte, reduceCtorEq, true_and, and_true, and_self, false_and, and_false, Int.reduceToNat, Int.reduceAdd, Int.reduceSub, Int.reduceMul, cond_true, cond_false, List.toList_toArray, Option.map_some, Option.map_none, Option.some.injEq, List.cons_append, List.nil_append, List.length_cons, List.length_nil, List.getD_cons_zero, List.getD_cons_succ]
    exact hR
  | some v =>
    obtain ⟨s, bn, bt, bl⟩ := v
    rw [hnm] at hR
    simp only at hR ⊢
    unfold mayK at hR
    rw [okI_name, okI_name, okI_name] at hR
    generalize decide (0 < s) = s0 at *
    generalize decide (1 < s) = s1 at *
    generalize decide (2 < s) = s2 at *
    simp (config := { maxSteps := 1000000 }) (disch := first | omega | (simp only [sizeAlloc, sizeDrew, sizeSet, sizePut] <;> omega) | fail) only [GS1, GS2, GS3, GS4, GS5, GS6, GS7, GS8, GS9, GS10, GS11, TT_eq, TTl, Nat.reduceAdd, Nat.reduceMul, Nat.reduceSub, Nat.reduceDiv, Nat.reduceMod, Nat.reducePow, Nat.reduceEqDiff, ↓reduceIte, reduceCtorEq, true_and, and_true, and_self, false_and, and_false, Int.reduceToNat, Int.reduceAdd, Int.reduceSub, Int.reduceMul, cond_true, cond_false, List.toList_toArray, Option.map_some, Option.map_none, Option.some.injEq, List.cons_append, List.nil_append, List.length_cons, List.length_nil, List.getD_cons_zero, List.getD_cons_succ, q1]
    refine ⟨fok41, rNamed_cps s0 x.a n _ _ (.inl ⟨_, rfl, hold_ops okT (rs := [.tmp 4]) rfl ?_⟩)⟩
    generalize nameR s0 x.a n = r0 at *
    cases r0
    · simp only [Bool.and_false, Bool.false_and] at hR
      simp (config := { maxSteps := 1000000 }) (disch := first | omega | (simp only [sizeAlloc, sizeDrew, sizeSet, sizePut] <;> omega) | fail) only [GS1, GS2, GS3, GS4, GS5, GS6, GS7, GS8, GS9, GS10, GS11, TT_eq, TTl, Nat.reduceAdd, Nat.reduceMul, Nat.reduceSub, Nat.reduceDiv, Nat.reduceMod, Nat.reducePow, Nat.reduceEqDiff, ↓reduceIte, reduceCtorEq, true_and, and_true, and_self, false_and, and_false, Int.reduceToNat, Int.reduceAdd, Int.reduceSub, Int.reduceMul, cond_true, cond_false, List.toList_toArray, Option.map_some, Option.map_none, Option.some.injEq, List.cons_append, List.nil_append, List.length_cons, List.length_nil, List.getD_cons_zero, List.getD_cons_succ]
      exact hR
    simp (config := { maxSteps := 1000000 }) (disch := first | omega | (simp only [sizeAlloc, sizeDrew, sizeSet, sizePut] <;> omega) | fail) only [GS1, GS2, GS3, GS4, GS5, GS6, GS7, GS8, GS9, GS10, GS11, TT_eq, TTl, Nat.reduceAdd, Nat.reduceMul, Nat.reduceSub, Nat.reduceDiv, Nat.reduceMod, Nat.reducePow, Nat.reduceEqDiff, ↓reduceIte, reduceCtorEq, true_and, and_true, and_self, false_and, and_false, Int.reduceToNat, Int.reduceAdd, Int.reduceSub, Int.reduceMul, cond_true, cond_false, List.toList_toArray, Option.map_some, Option.map_none, Option.some.injEq, List.cons_append, List.nil_append, List.length_cons, List.length_nil, List.getD_cons_zero, List.getD_cons_succ, q2]
    refine ⟨fok41, rNamed_cps s1 x.b n _ _ (.inl ⟨_, rfl, hold_ops okT (rs := [.tmp 4]) rfl ?_⟩)⟩
    generalize nameR s1 x.b n = r1 at *
    cases r1
    · simp only [Bool.and_false, Bool.false_and] at hR
      simp (config := { maxSteps := 1000000 }) (disch := first | omega | (simp only [sizeAlloc, sizeDrew, sizeSet, sizePut] <;> omega) | fail) only [GS1, GS2, GS3, GS4, GS5, GS6, GS7, GS8, GS9, GS10, GS11, TT_eq, TTl, Nat.reduceAdd, Nat.reduceMul, Nat.reduceSub, Nat.reduceDiv, Nat.reduceMod, Nat.reducePow, Nat.reduceEqDiff, ↓reduceIte, reduceCtorEq, true_and, and_true, and_self, false_and, and_false, Int.reduceToNat, Int.reduceAdd, Int.reduceSub, Int.reduceMul, cond_true, cond_false, List.toList_toArray, Option.map_some, Option.map_none, Option.some.injEq, List.cons_append, List.nil_append, List.length_cons, List.length_nil, List.getD_cons_zero, List.getD_cons_succ]
      exact hR
    simp (config := { maxSteps := 1000000 }) (disch := first | omega | (simp only [sizeAlloc, sizeDrew, sizeSet, sizePut] <;> omega) | fail) only [GS1, GS2, GS3, GS4, GS5, GS6, GS7, GS8, GS9, GS10, GS11, TT_eq, TTl, Nat.reduceAdd, Nat.reduceMul, Nat.reduceSub, Nat.reduceDiv, Nat.reduceMod, Nat.reducePow, Nat.reduceEqDiff, ↓reduceIte, reduceCtorEq, true_and, and_true, and_self, false_and, and_false, Int.reduceToNat, Int.reduceAdd, Int.reduceSub, Int.reduceMul, cond_true, cond_false, List.toList_toArray, Option.map_some, Option.map_none, Option.some.injEq, List.cons_append, List.nil_append, List.length_cons, List.length_nil, List.getD_cons_zero, List.getD_cons_succ, q3]
    refine ⟨fok41, rNamed_cps s2 x.c n _ _ (.inl ⟨_, rfl, hold_ops okT (rs := [.tmp 4]) rfl ?_⟩)⟩
    generalize nameR s2 x.c n = r2 at *
    cases r2
    · simp only [Bool.and_false, Bool.false_and] at hR
      simp (config := { maxSteps := 1000000 }) (disch := first | omega | (simp only [sizeAlloc, sizeDrew, sizeSet, sizePut] <;> omega) | fail) only [GS1, GS2, GS3, GS4, GS5, GS6, GS7, GS8, GS9, GS10, GS11, TT_eq, TTl, Nat.reduceAdd, Nat.reduceMul, Nat.reduceSub, Nat.reduceDiv, Nat.reduceMod, Nat.reducePow, Nat.reduceEqDiff, ↓reduceIte, reduceCtorEq, true_and, and_true, and_self, false_and, and_false, Int.reduceToNat, Int.reduceAdd, Int.reduceSub, Int.reduceMul, cond_true, cond_false, List.toList_toArray, Option.map_some, Option.map_none, Option.some.injEq, List.cons_append, List.nil_append, List.length_cons, List.length_nil, List.getD_cons_zero, List.getD_cons_succ]
      exact hR
    have hA : (bn = true) ∨ (bn = false ∧ x.n = 0) ∨ (bn = false ∧ x.n ≠ 0) := by cases bn <;> simp <;> omega
    have hB : (bt = true) ∨ (bt = false ∧ x.text = []) ∨ (bt = false ∧ x.text ≠ []) := by cases bt <;> simp <;> exact Classical.em _
    have hC : (bl = true) ∨ (bl = false ∧ x.list = []) ∨ (bl = false ∧ x.list ≠ []) := by cases bl <;> simp <;> exact Classical.em _
    rcases hA with rfl | ⟨rfl, hA⟩ | ⟨rfl, hh⟩
    · rcases hB with rfl | ⟨rfl, hB⟩ | ⟨rfl, hh⟩
      · rcases hC with rfl | ⟨rfl, hC⟩ | ⟨rfl, hh⟩
        · simp only [Bool.true_or, Bool.false_or, Bool.true_and, Bool.and_true, decide_true] at hR
          simp (config := { maxSteps := 1000000 }) (disch := first | omega | (simp only [sizeAlloc, sizeDrew, sizeSet, sizePut] <;> omega) | fail) only [GS1, GS2, GS3, GS4, GS5, GS6, GS7, GS8, GS9, GS10, GS11, TT_eq, TTl, Nat.reduceAdd, Nat.reduceMul, Nat.reduceSub, Nat.reduceDiv, Nat.reduceMod, Nat.reducePow, Nat.reduceEqDiff, ↓reduceIte, reduceCtorEq, true_and, and_true, and_self, false_and, and_false, Int.reduceToNat, Int.reduceAdd, Int.reduceSub, Int.reduceMul, cond_true, cond_false, List.toList_toArray, Option.map_some, Option.map_none, Option.some.injEq, List.cons_append, List.nil_append, List.length_cons, List.length_nil, List.getD_cons_zero, List.getD_cons_succ, q4, q5, q6]
          refine hold_loop okT (rs := [.tmp 4]) rfl [12] [4, 76, 77, 78, 79, 80, 81, 82, 83, 84, 85, 86, 87, 88, 89, 90, 91, 92, 93, 94, 95, 96, 97] (fun vs w' => ∃ k : Nat, k ≤ x.list.length ∧ vs = [.int .i64 k] ∧ w' = w1 ∧ ∀ v ∈ x.list.take k, 0 ≤ v ∧ v < n) (fun vs _ => match vs with | [.int _ i] => x.list.length - i.toNat | _ => 0) (by kernel_rfl) ⟨0, by omega, rfl, rfl, by simp⟩ ?_
          rintro vs w' J ⟨k, hk, rfl, rfl, hall⟩
          by_cases hlt : k < x.list.length
          · obtain ⟨b1, o1, c1, e1, _, g1⟩ := hrd.at (by omega) (by omega)
            have f1 := g1 k _ (getI hlt)
            rw [Value.slice.injEq] at e1
            obtain ⟨rfl, -, -⟩ := e1
            have htk : x.list.take (k + 1) = x.list.take k ++ [x.list[k]] := List.take_succ_eq_append_getElem hlt
            have hmem := List.getElem_mem hlt
            generalize x.list[k] = v at f1 htk hmem
            by_cases h0 : v < 0
            · rw [List.all_eq_false.2 ⟨v, hmem, by simp; omega⟩] at hR
              simp (config := { maxSteps := 1000000 }) (disch := first | omega | (simp only [sizeAlloc, sizeDrew, sizeSet, sizePut] <;> omega) | fail) only [GS1, GS2, GS3, GS4, GS5, GS6, GS7, GS8, GS9, GS10, GS11, TT_eq, TTl, Nat.reduceAdd, Nat.reduceMul, Nat.reduceSub, Nat.reduceDiv, Nat.reduceMod, Nat.reducePow, Nat.reduceEqDiff, ↓reduceIte, reduceCtorEq, true_and, and_true, and_self, false_and, and_false, Int.reduceToNat, Int.reduceAdd, Int.reduceSub, Int.reduceMul, cond_true, cond_false, List.toList_toArray, Option.map_some, Option.map_none, Option.some.injEq, List.cons_append, List.nil_append, List.length_cons, List.length_nil, List.getD_cons_zero, List.getD_cons_succ, q6, f1]
              exact hR
            · by_cases h1 : v < n
              · simp (config := { maxSteps := 1000000 }) (disch := first | omega | (simp only [sizeAlloc, sizeDrew, sizeSet, sizePut] <;> omega) | fail) only [GS1, GS2, GS3, GS4, GS5, GS6, GS7, GS8, GS9, GS10, GS11, TT_eq, TTl, Nat.reduceAdd, Nat.reduceMul, Nat.reduceSub, Nat.reduceDiv, Nat.reduceMod, Nat.reducePow, Nat.reduceEqDiff, ↓reduceIte, reduceCtorEq, true_and, and_true, and_self, false_and, and_false, Int.reduceToNat, Int.reduceAdd, Int.reduceSub, Int.reduceMul, cond_true, cond_false, List.toList_toArray, Option.map_some, Option.map_none, Option.some.injEq, List.cons_append, List.nil_append, List.length_cons, List.length_nil, List.getD_cons_zero, List.getD_cons_succ, q6, f1]
                refine ⟨⟨k + 1, by omega, rfl, ?_⟩, by omega⟩
                intro u hu
                rw [htk, List.mem_append, List.mem_singleton] at hu
                rcases hu with hu | rfl
                · exact hall u hu
                · omega
              · rw [List.all_eq_false.2 ⟨v, hmem, by simp; omega⟩] at hR
                simp (config := { maxSteps := 1000000 }) (disch := first | omega | (simp only [sizeAlloc, sizeDrew, sizeSet, sizePut] <;> omega) | fail) only [GS1, GS2, GS3, GS4, GS5, GS6, GS7, GS8, GS9, GS10, GS11, TT_eq, TTl, Nat.reduceAdd, Nat.reduceMul, Nat.reduceSub, Nat.reduceDiv, Nat.reduceMod, Nat.reducePow, Nat.reduceEqDiff, ↓reduceIte, reduceCtorEq, true_and, and_true, and_self, false_and, and_false, Int.reduceToNat, Int.reduceAdd, Int.reduceSub, Int.reduceMul, cond_true, cond_false, List.toList_toArray, Option.map_some, Option.map_none, Option.some.injEq, List.cons_append, List.nil_append, List.length_cons, List.length_nil, List.getD_cons_zero, List.getD_cons_succ, q6, f1]
                exact hR
          · have e : k = x.list.length := by omega
            subst e
            rw [List.take_length] at hall
            rw [List.all_eq_true.2 (fun v hv => decide_eq_true (hall v hv))] at hR
            simp (config := { maxSteps := 1000000 }) (disch := first | omega | (simp only [sizeAlloc, sizeDrew, sizeSet, sizePut] <;> omega) | fail) only [GS1, GS2, GS3, GS4, GS5, GS6, GS7, GS8, GS9, GS10, GS11, TT_eq, TTl, Nat.reduceAdd, Nat.reduceMul, Nat.reduceSub, Nat.reduceDiv, Nat.reduceMod, Nat.reducePow, Nat.reduceEqDiff, ↓reduceIte, reduceCtorEq, true_and, and_true, and_self, false_and, and_false, Int.reduceToNat, Int.reduceAdd, Int.reduceSub, Int.reduceMul, cond_true, cond_false, List.toList_toArray, Option.map_some, Option.map_none, Option.some.injEq, List.cons_append, List.nil_append, List.length_cons, List.length_nil, List.getD_cons_zero, List.getD_cons_succ, q6]
            exact hR
        · have hc0 : x.list.length = 0 := by rw [hC]; rfl
          have hCd : decide (x.list = []) = true := decide_eq_true hC
          simp only [Bool.true_or, Bool.false_or, Bool.true_and, Bool.and_true, decide_true, hCd] at hR
          simp (config := { maxSteps := 1000000 }) (disch := first | omega | (simp only [sizeAlloc, sizeDrew, sizeSet, sizePut] <;> omega) | fail) only [GS1, GS2, GS3, GS4, GS5, GS6, GS7, GS8, GS9, GS10, GS11, TT_eq, TTl, Nat.reduceAdd, Nat.reduceMul, Nat.reduceSub, Nat.reduceDiv, Nat.reduceMod, Nat.reducePow, Nat.reduceEqDiff, ↓reduceIte, reduceCtorEq, true_and, and_true, and_self, false_and, and_false, Int.reduceToNat, Int.reduceAdd, Int.reduceSub, Int.reduceMul, cond_true, cond_false, List.toList_toArray, Option.map_some, Option.map_none, Option.some.injEq, List.cons_append, List.nil_append, List.length_cons, List.length_nil, List.getD_cons_zero, List.getD_cons_succ, q4, q5, q6]
          refine hold_loop okT (rs := [.tmp 4]) rfl [12] [4, 76, 77, 78, 79, 80, 81, 82, 83, 84, 85, 86, 87, 88, 89, 90, 91, 92, 93, 94, 95, 96, 97] (fun vs w' => ∃ k : Nat, k ≤ x.list.length ∧ vs = [.int .i64 k] ∧ w' = w1 ∧ ∀ v ∈ x.list.take k, 0 ≤ v ∧ v < n) (fun vs _ => match vs with | [.int _ i] => x.list.length - i.toNat | _ => 0) (by kernel_rfl) ⟨0, by omega, rfl, rfl, by simp⟩ ?_
          rintro vs w' J ⟨k, hk, rfl, rfl, hall⟩
          by_cases hlt : k < x.list.length
          · omega
          · have e : k = x.list.length := by omega
            subst e
            rw [List.take_length] at hall
            rw [List.all_eq_true.2 (fun v hv => decide_eq_true (hall v hv))] at hR
            simp (config := { maxSteps := 1000000 }) (disch := first | omega | (simp only [sizeAlloc, sizeDrew, sizeSet, sizePut] <;> omega) | fail) only [GS1, GS2, GS3, GS4, GS5, GS6, GS7, GS8, GS9, GS10, GS11, TT_eq, TTl, Nat.reduceAdd, Nat.reduceMul, Nat.reduceSub, Nat.reduceDiv, Nat.reduceMod, Nat.reducePow, Nat.reduceEqDiff, ↓reduceIte, reduceCtorEq, true_and, and_true, and_self, false_and, and_false, Int.reduceToNat, Int.reduceAdd, Int.reduceSub, Int.reduceMul, cond_true, cond_false, List.toList_toArray, Option.map_some, Option.map_none, Option.some.injEq, List.cons_append, List.nil_append, List.length_cons, List.length_nil, List.getD_cons_zero, List.getD_cons_succ, q6]
            exact hR
        · have hc0 : x.list.length ≠ 0 := fun e => hh (List.eq_nil_of_length_eq_zero e)
          simp only [hh, decide_false, Bool.false_or, Bool.and_false, Bool.false_and] at hR
          simp (config := { maxSteps := 1000000 }) (disch := first | omega | (simp only [sizeAlloc, sizeDrew, sizeSet, sizePut] <;> omega) | fail) only [GS1, GS2, GS3, GS4, GS5, GS6, GS7, GS8, GS9, GS10, GS11, TT_eq, TTl, Nat.reduceAdd, Nat.reduceMul, Nat.reduceSub, Nat.reduceDiv, Nat.reduceMod, Nat.reducePow, Nat.reduceEqDiff, ↓reduceIte, reduceCtorEq, true_and, and_true, and_self, false_and, and_false, Int.reduceToNat, Int.reduceAdd, Int.reduceSub, Int.reduceMul, cond_true, cond_false, List.toList_toArray, Option.map_some, Option.map_none, Option.some.injEq, List.cons_append, List.nil_append, List.length_cons, List.length_nil, List.getD_cons_zero, List.getD_cons_succ, q4, q5, q6]
          exact hR
      · rcases hC with rfl | ⟨rfl, hC⟩ | ⟨rfl, hh⟩
        · simp only [Bool.true_or, Bool.false_or, Bool.true_and, Bool.and_true, decide_true, hB] at hR
          simp (config := { maxSteps := 1000000 }) (disch := first | omega | (simp only [sizeAlloc, sizeDrew, sizeSet, sizePut] <;> omega) | fail) only [GS1, GS2, GS3, GS4, GS5, GS6, GS7, GS8, GS9, GS10, GS11, TT_eq, TTl, Nat.reduceAdd, Nat.reduceMul, Nat.reduceSub, Nat.reduceDiv, Nat.reduceMod, Nat.reducePow, Nat.reduceEqDiff, ↓reduceIte, reduceCtorEq, true_and, and_true, and_self, false_and, and_false, Int.reduceToNat, Int.reduceAdd, Int.reduceSub, Int.reduceMul, cond_true, cond_false, List.toList_toArray, Option.map_some, Option.map_none, Option.some.injEq, List.cons_append, List.nil_append, List.length_cons, List.length_nil, List.getD_cons_zero, List.getD_cons_succ, q4, q5, q6, hB]
          refine hold_loop okT (rs := [.tmp 4]) rfl [12] [4, 76, 77, 78, 79, 80, 81, 82, 83, 84, 85, 86, 87, 88, 89, 90, 91, 92, 93, 94, 95, 96, 97] (fun vs w' => ∃ k : Nat, k ≤ x.list.length ∧ vs = [.int .i64 k] ∧ w' = w1 ∧ ∀ v ∈ x.list.take k, 0 ≤ v ∧ v < n) (fun vs _ => match vs with | [.int _ i] => x.list.length - i.toNat | _ => 0) (by kernel_rfl) ⟨0, by omega, rfl, rfl, by simp⟩ ?_
          rintro vs w' J ⟨k, hk, rfl, rfl, hall⟩
          by_cases hlt : k < x.list.length
          · obtain ⟨b1, o1, c1, e1, _, g1⟩ := hrd.at (by omega) (by omega)
            have f1 := g1 k _ (getI hlt)
            rw [Value.slice.injEq] at e1
            obtain ⟨rfl, -, -⟩ := e1
            have htk : x.list.take (k + 1) = x.list.take k ++ [x.list[k]] := List.take_succ_eq_append_getElem hlt
            have hmem := List.getElem_mem hlt
            generalize x.list[k] = v at f1 htk hmem
            by_cases h0 : v < 0
            · rw [List.all_eq_false.2 ⟨v, hmem, by simp; omega⟩] at hR
              simp (config := { maxSteps := 1000000 }) (disch := first | omega | (simp only [sizeAlloc, sizeDrew, sizeSet, sizePut] <;> omega) | fail) only [GS1, GS2, GS3, GS4, GS5, GS6, GS7, GS8, GS9, GS10, GS11, TT_eq, TTl, Nat.reduceAdd, Nat.reduceMul, Nat.reduceSub, Nat.reduceDiv, Nat.reduceMod, Nat.reducePow, Nat.reduceEqDiff, ↓reduceIte, reduceCtorEq, true_and, and_true, and_self, false_and, and_false, Int.reduceToNat, Int.reduceAdd, Int.reduceSub, Int.reduceMul, cond_true, cond_false, List.toList_toArray, Option.map_some, Option.map_none, Option.some.injEq, List.cons_append, List.nil_append, List.length_cons, List.length_nil, List.getD_cons_zero, List.getD_cons_succ, q6, f1]
              exact hR
            · by_cases h1 : v < n
              · simp (config := { maxSteps := 1000000 }) (disch := first | omega | (simp only [sizeAlloc, sizeDrew, sizeSet, sizePut] <;> omega) | fail) only [GS1, GS2, GS3, GS4, GS5, GS6, GS7, GS8, GS9, GS10, GS11, TT_eq, TTl, Nat.reduceAdd, Nat.reduceMul, Nat.reduceSub, Nat.reduceDiv, Nat.reduceMod, Nat.reducePow, Nat.reduceEqDiff, ↓reduceIte, reduceCtorEq, true_and, and_true, and_self, false_and, and_false, Int.reduceToNat, Int.reduceAdd, Int.reduceSub, Int.reduceMul, cond_true, cond_false, List.toList_toArray, Option.map_some, Option.map_none, Option.some.injEq, List.cons_append, List.nil_append, List.length_cons, List.length_nil, List.getD_cons_zero, List.getD_cons_succ, q6, f1]
                refine ⟨⟨k + 1, by omega, rfl, ?_⟩, by omega⟩
                intro u hu
                rw [htk, List.mem_append, List.mem_singleton] at hu
                rcases hu with hu | rfl
                · exact hall u hu
                · omega
              · rw [List.all_eq_false.2 ⟨v, hmem, by simp; omega⟩] at hR
                simp (config := { maxSteps := 1000000 }) (disch := first | omega | (simp only [sizeAlloc, sizeDrew, sizeSet, sizePut] <;> omega) | fail) only [GS1, GS2, GS3, GS4, GS5, GS6, GS7, GS8, GS9, GS10, GS11, TT_eq, TTl, Nat.reduceAdd, Nat.reduceMul, Nat.reduceSub, Nat.reduceDiv, Nat.reduceMod, Nat.reducePow, Nat.reduceEqDiff, ↓reduceIte, reduceCtorEq, true_and, and_true, and_self, false_and, and_false, Int.reduceToNat, Int.reduceAdd, Int.reduceSub, Int.reduceMul, cond_true, cond_false, List.toList_toArray, Option.map_some, Option.map_none, Option.some.injEq, List.cons_append, List.nil_append, List.length_cons, List.length_nil, List.getD_cons_zero, List.getD_cons_succ, q6, f1]
                exact hR
          · have e : k = x.list.length := by omega
            subst e
            rw [List.take_length] at hall
            rw [List.all_eq_true.2 (fun v hv => decide_eq_true (hall v hv))] at hR
            simp (config := { maxSteps := 1000000 }) (disch := first | omega | (simp only [sizeAlloc, sizeDrew, sizeSet, sizePut] <;> omega) | fail) only [GS1, GS2, GS3, GS4, GS5, GS6, GS7, GS8, GS9, GS10, GS11, TT_eq, TTl, Nat.reduceAdd, Nat.reduceMul, Nat.reduceSub, Nat.reduceDiv, Nat.reduceMod, Nat.reducePow, Nat.reduceEqDiff, ↓reduceIte, reduceCtorEq, true_and, and_true, and_self, false_and, and_false, Int.reduceToNat, Int.reduceAdd, Int.reduceSub, Int.reduceMul, cond_true, cond_false, List.toList_toArray, Option.map_some, Option.map_none, Option.some.injEq, List.cons_append, List.nil_append, List.length_cons, List.length_nil, List.getD_cons_zero, List.getD_cons_succ, q6]
            exact hR
        · have hc0 : x.list.length = 0 := by rw [hC]; rfl
          have hCd : decide (x.list = []) = true := decide_eq_true hC
          simp only [Bool.true_or, Bool.false_or, Bool.true_and, Bool.and_true, decide_true, hB, hCd] at hR
          simp (config := { maxSteps := 1000000 }) (disch := first | omega | (simp only [sizeAlloc, sizeDrew, sizeSet, sizePut] <;> omega) | fail) only [GS1, GS2, GS3, GS4, GS5, GS6, GS7, GS8, GS9, GS10, GS11, TT_eq, TTl, Nat.reduceAdd, Nat.reduceMul, Nat.reduceSub, Nat.reduceDiv, Nat.reduceMod, Nat.reducePow, Nat.reduceEqDiff, ↓reduceIte, reduceCtorEq, true_and, and_true, and_self, false_and, and_false, Int.reduceToNat, Int.reduceAdd, Int.reduceSub, Int.reduceMul, cond_true, cond_false, List.toList_toArray, Option.map_some, Option.map_none, Option.some.injEq, List.cons_append, List.nil_append, List.length_cons, List.length_nil, List.getD_cons_zero, List.getD_cons_succ, q4, q5, q6, hB]
          refine hold_loop okT (rs := [.tmp 4]) rfl [12] [4, 76, 77, 78, 79, 80, 81, 82, 83, 84, 85, 86, 87, 88, 89, 90, 91, 92, 93, 94, 95, 96, 97] (fun vs w' => ∃ k : Nat, k ≤ x.list.length ∧ vs = [.int .i64 k] ∧ w' = w1 ∧ ∀ v ∈ x.list.take k, 0 ≤ v ∧ v < n) (fun vs _ => match vs with | [.int _ i] => x.list.length - i.toNat | _ => 0) (by kernel_rfl) ⟨0, by omega, rfl, rfl, by simp⟩ ?_
          rintro vs w' J ⟨k, hk, rfl, rfl, hall⟩
          by_cases hlt : k < x.list.length
          · omega
          · have e : k = x.list.length := by omega
            subst e
            rw [List.take_length] at hall
            rw [List.all_eq_true.2 (fun v hv => decide_eq_true (hall v hv))] at hR
            simp (config := { maxSteps := 1000000 }) (disch := first | omega | (simp only [sizeAlloc, sizeDrew, sizeSet, sizePut] <;> omega) | fail) only [GS1, GS2, GS3, GS4, GS5, GS6, GS7, GS8, GS9, GS10, GS11, TT_eq, TTl, Nat.reduceAdd, Nat.reduceMul, Nat.reduceSub, Nat.reduceDiv, Nat.reduceMod, Nat.reducePow, Nat.reduceEqDiff, ↓reduceIte, reduceCtorEq, true_and, and_true, and_self, false_and, and_false, Int.reduceToNat, Int.reduceAdd, Int.reduceSub, Int.reduceMul, cond_true, cond_false, List.toList_toArray, Option.map_some, Option.map_none, Option.some.injEq, List.cons_append, List.nil_append, List.length_cons, List.length_nil, List.getD_cons_zero, List.getD_cons_succ, q6]
            exact hR
        · have hc0 : x.list.length ≠ 0 := fun e => hh (List.eq_nil_of_length_eq_zero e)
          simp only [hh, decide_false, Bool.false_or, Bool.and_false, Bool.false_and] at hR
          simp (config := { maxSteps := 1000000 }) (disch := first | omega | (simp only [sizeAlloc, sizeDrew, sizeSet, sizePut] <;> omega) | fail) only [GS1, GS2, GS3, GS4, GS5, GS6, GS7, GS8, GS9, GS10, GS11, TT_eq, TTl, Nat.reduceAdd, Nat.reduceMul, Nat.reduceSub, Nat.reduceDiv, Nat.reduceMod, Nat.reducePow, Nat.reduceEqDiff, ↓reduceIte, reduceCtorEq, true_and, and_true, and_self, false_and, and_false, Int.reduceToNat, Int.reduceAdd, Int.reduceSub, Int.reduceMul, cond_true, cond_false, List.toList_toArray, Option.map_some, Option.map_none, Option.some.injEq, List.cons_append, List.nil_append, List.length_cons, List.length_nil, List.getD_cons_zero, List.getD_cons_succ, q4, q5, q6, hB]
          exact hR
      · simp only [hh, decide_false, Bool.false_or, Bool.and_false, Bool.false_and] at hR
        have h2d : decide (x.text = []) = false := by simp [hh]
        simp (config := { maxSteps := 1000000 }) (disch := first | omega | (simp only [sizeAlloc, sizeDrew, sizeSet, sizePut] <;> omega) | fail) only [GS1, GS2, GS3, GS4, GS5, GS6, GS7, GS8, GS9, GS10, GS11, TT_eq, TTl, Nat.reduceAdd, Nat.reduceMul, Nat.reduceSub, Nat.reduceDiv, Nat.reduceMod, Nat.reducePow, Nat.reduceEqDiff, ↓reduceIte, reduceCtorEq, true_and, and_true, and_self, false_and, and_false, Int.reduceToNat, Int.reduceAdd, Int.reduceSub, Int.reduceMul, cond_true, cond_false, List.toList_toArray, Option.map_some, Option.map_none, Option.some.injEq, List.cons_append, List.nil_append, List.length_cons, List.length_nil, List.getD_cons_zero, List.getD_cons_succ, q4, q5, q6, hh, h2d]
        exact hR
    · rcases hB with rfl | ⟨rfl, hB⟩ | ⟨rfl, hh⟩
      · rcases hC with rfl | ⟨rfl, hC⟩ | ⟨rfl, hh⟩
        · simp only [Bool.true_or, Bool.false_or, Bool.true_and, Bool.and_true, decide_true, hA] at hR
          simp (config := { maxSteps := 1000000 }) (disch := first | omega | (simp only [sizeAlloc, sizeDrew, sizeSet, sizePut] <;> omega) | fail) only [GS1, GS2, GS3, GS4, GS5, GS6, GS7, GS8, GS9, GS10, GS11, TT_eq, TTl, Nat.reduceAdd, Nat.reduceMul, Nat.reduceSub, Nat.reduceDiv, Nat.reduceMod, Nat.reducePow, Nat.reduceEqDiff, ↓reduceIte, reduceCtorEq, true_and, and_true, and_self, false_and, and_false, Int.reduceToNat, Int.reduceAdd, Int.reduceSub, Int.reduceMul, cond_true, cond_false, List.toList_toArray, Option.map_some, Option.map_none, Option.some.injEq, List.cons_append, List.nil_append, List.length_cons, List.length_nil, List.getD_cons_zero, List.getD_cons_succ, q4, q5, q6, hA]
          refine hold_loop okT (rs := [.tmp 4]) rfl [12] [4, 76, 77, 78, 79, 80, 81, 82, 83, 84, 85, 86, 87, 88, 89, 90, 91, 92, 93, 94, 95, 96, 97] (fun vs w' => ∃ k : Nat, k ≤ x.list.length ∧ vs = [.int .i64 k] ∧ w' = w1 ∧ ∀ v ∈ x.list.take k, 0 ≤ v ∧ v < n) (fun vs _ => match vs with | [.int _ i] => x.list.length - i.toNat | _ => 0) (by kernel_rfl) ⟨0, by omega, rfl, rfl, by simp⟩ ?_
          rintro vs w' J ⟨k, hk, rfl, rfl, hall⟩
          by_cases hlt : k < x.list.length
          · obtain ⟨b1, o1, c1, e1, _, g1⟩ := hrd.at (by omega) (by omega)
            have f1 := g1 k _ (getI hlt)
            rw [Value.slice.injEq] at e1
            obtain ⟨rfl, -, -⟩ := e1
            have htk : x.list.take (k + 1) = x.list.take k ++ [x.list[k]] := List.take_succ_eq_append_getElem hlt
            have hmem := List.getElem_mem hlt
            generalize x.list[k] = v at f1 htk hmem
            by_cases h0 : v < 0
            · rw [List.all_eq_false.2 ⟨v, hmem, by simp; omega⟩] at hR
              simp (config := { maxSteps := 1000000 }) (disch := first | omega | (simp only [sizeAlloc, sizeDrew, sizeSet, sizePut] <;> omega) | fail) only [GS1, GS2, GS3, GS4, GS5, GS6, GS7, GS8, GS9, GS10, GS11, TT_eq, TTl, Nat.reduceAdd, Nat.reduceMul, Nat.reduceSub, Nat.reduceDiv, Nat.reduceMod, Nat.reducePow, Nat.reduceEqDiff, ↓reduceIte, reduceCtorEq, true_and, and_true, and_self, false_and, and_false, Int.reduceToNat, Int.reduceAdd, Int.reduceSub, Int.reduceMul, cond_true, cond_false, List.toList_toArray, Option.map_some, Option.map_none, Option.some.injEq, List.cons_append, List.nil_append, List.length_cons, List.length_nil, List.getD_cons_zero, List.getD_cons_succ, q6, f1]
              exact hR
            · by_cases h1 : v < n
              · simp (config := { maxSteps := 1000000 }) (disch := first | omega | (simp only [sizeAlloc, sizeDrew, sizeSet, sizePut] <;> omega) | fail) only [GS1, GS2, GS3, GS4, GS5, GS6, GS7, GS8, GS9, GS10, GS11, TT_eq, TTl, Nat.reduceAdd, Nat.reduceMul, Nat.reduceSub, Nat.reduceDiv, Nat.reduceMod, Nat.reducePow, Nat.reduceEqDiff, ↓reduceIte, reduceCtorEq, true_and, and_true, and_self, false_and, and_false, Int.reduceToNat, Int.reduceAdd, Int.reduceSub, Int.reduceMul, cond_true, cond_false, List.toList_toArray, Option.map_some, Option.map_none, Option.some.injEq, List.cons_append, List.nil_append, List.length_cons, List.length_nil, List.getD_cons_zero, List.getD_cons_succ, q6, f1]
                refine ⟨⟨k + 1, by omega, rfl, ?_⟩, by omega⟩
                intro u hu
                rw [htk, List.mem_append, List.mem_singleton] at hu
                rcases hu with hu | rfl
                · exact hall u hu
                · omega
              · rw [List.all_eq_false.2 ⟨v, hmem, by simp; omega⟩] at hR
                simp (config := { maxSteps := 1000000 }) (disch := first | omega | (simp only [sizeAlloc, sizeDrew, sizeSet, sizePut] <;> omega) | fail) only [GS1, GS2, GS3, GS4, GS5, GS6, GS7, GS8, GS9, GS10, GS11, TT_eq, TTl, Nat.reduceAdd, Nat.reduceMul, Nat.reduceSub, Nat.reduceDiv, Nat.reduceMod, Nat.reducePow, Nat.reduceEqDiff, ↓reduceIte, reduceCtorEq, true_and, and_true, and_self, false_and, and_false, Int.reduceToNat, Int.reduceAdd, Int.reduceSub, Int.reduceMul, cond_true, cond_false, List.toList_toArray, Option.map_some, Option.map_none, Option.some.injEq, List.cons_append, List.nil_append, List.length_cons, List.length_nil, List.getD_cons_zero, List.getD_cons_succ, q6, f1]
                exact hR
          · have e : k = x.list.length := by omega
            subst e
            rw [List.take_length] at hall
            rw [List.all_eq_true.2 (fun v hv => decide_eq_true (hall v hv))] at hR
            simp (config := { maxSteps := 1000000 }) (disch := first | omega | (simp only [sizeAlloc, sizeDrew, sizeSet, sizePut] <;> omega) | fail) only [GS1, GS2, GS3, GS4, GS5, GS6, GS7, GS8, GS9, GS10, GS11, TT_eq, TTl, Nat.reduceAdd, Nat.reduceMul, Nat.reduceSub, Nat.reduceDiv, Nat.reduceMod, Nat.reducePow, Nat.reduceEqDiff, ↓reduceIte, reduceCtorEq, true_and, and_true, and_self, false_and, and_false, Int.reduceToNat, Int.reduceAdd, Int.reduceSub, Int.reduceMul, cond_true, cond_false, List.toList_toArray, Option.map_some, Option.map_none, Option.some.injEq, List.cons_append, List.nil_append, List.length_cons, List.length_nil, List.getD_cons_zero, List.getD_cons_succ, q6]
            exact hR
        · have hc0 : x.list.length = 0 := by rw [hC]; rfl
          have hCd : decide (x.list = []) = true := decide_eq_true hC
          simp only [Bool.true_or, Bool.false_or, Bool.true_and, Bool.and_true, decide_true, hA, hCd] at hR
          simp (config := { maxSteps := 1000000 }) (disch := first | omega | (simp only [sizeAlloc, sizeDrew, sizeSet, sizePut] <;> omega) | fail) only [GS1, GS2, GS3, GS4, GS5, GS6, GS7, GS8, GS9, GS10, GS11, TT_eq, TTl, Nat.reduceAdd, Nat.reduceMul, Nat.reduceSub, Nat.reduceDiv, Nat.reduceMod, Nat.reducePow, Nat.reduceEqDiff, ↓reduceIte, reduceCtorEq, true_and, and_true, and_self, false_and, and_false, Int.reduceToNat, Int.reduceAdd, Int.reduceSub, Int.reduceMul, cond_true, cond_false, List.toList_toArray, Option.map_some, Option.map_none, Option.some.injEq, List.cons_append, List.nil_append, List.length_cons, List.length_nil, List.getD_cons_zero, List.getD_cons_succ, q4, q5, q6, hA]
          refine hold_loop okT (rs := [.tmp 4]) rfl [12] [4, 76, 77, 78, 79, 80, 81, 82, 83, 84, 85, 86, 87, 88, 89, 90, 91, 92, 93, 94, 95, 96, 97] (fun vs w' => ∃ k : Nat, k ≤ x.list.length ∧ vs = [.int .i64 k] ∧ w' = w1 ∧ ∀ v ∈ x.list.take k, 0 ≤ v ∧ v < n) (fun vs _ => match vs with | [.int _ i] => x.list.length - i.toNat | _ => 0) (by kernel_rfl) ⟨0, by omega, rfl, rfl, by simp⟩ ?_
          rintro vs w' J ⟨k, hk, rfl, rfl, hall⟩
          by_cases hlt : k < x.list.length
          · omega
          · have e : k = x.list.length := by omega
            subst e
            rw [List.take_length] at hall
            rw [List.all_eq_true.2 (fun v hv => decide_eq_true (hall v hv))] at hR
            simp (config := { maxSteps := 1000000 }) (disch := first | omega | (simp only [sizeAlloc, sizeDrew, sizeSet, sizePut] <;> omega) | fail) only [GS1, GS2, GS3, GS4, GS5, GS6, GS7, GS8, GS9, GS10, GS11, TT_eq, TTl, Nat.reduceAdd, Nat.reduceMul, Nat.reduceSub, Nat.reduceDiv, Nat.reduceMod, Nat.reducePow, Nat.reduceEqDiff, ↓reduceIte, reduceCtorEq, true_and, and_true, and_self, false_and, and_false, Int.reduceToNat, Int.reduceAdd, Int.reduceSub, Int.reduceMul, cond_true, cond_false, List.toList_toArray, Option.map_some, Option.map_none, Option.some.injEq, List.cons_append, List.nil_append, List.length_cons, List.length_nil, List.getD_cons_zero, List.getD_cons_succ, q6]
            exact hR
        · have hc0 : x.list.length ≠ 0 := fun e => hh (List.eq_nil_of_length_eq_zero e)
          simp only [hh, decide_false, Bool.false_or, Bool.and_false, Bool.false_and] at hR
          simp (config := { maxSteps := 1000000 }) (disch := first | omega | (simp only [sizeAlloc, sizeDrew, sizeSet, sizePut] <;> omega) | fail) only [GS1, GS2, GS3, GS4, GS5, GS6, GS7, GS8, GS9, GS10, GS11, TT_eq, TTl, Nat.reduceAdd, Nat.reduceMul, Nat.reduceSub, Nat.reduceDiv, Nat.reduceMod, Nat.reducePow, Nat.reduceEqDiff, ↓reduceIte, reduceCtorEq, true_and, and_true, and_self, false_and, and_false, Int.reduceToNat, Int.reduceAdd, Int.reduceSub, Int.reduceMul, cond_true, cond_false, List.toList_toArray, Option.map_some, Option.map_none, Option.some.injEq, List.cons_append, List.nil_append, List.length_cons, List.length_nil, List.getD_cons_zero, List.getD_cons_succ, q4, q5, q6, hA]
          exact hR
      · rcases hC with rfl | ⟨rfl, hC⟩ | ⟨rfl, hh⟩
        · simp only [Bool.true_or, Bool.false_or, Bool.true_and, Bool.and_true, decide_true, hA, hB] at hR
          simp (config := { maxSteps := 1000000 }) (disch := first | omega | (simp only [sizeAlloc, sizeDrew, sizeSet, sizePut] <;> omega) | fail) only [GS1, GS2, GS3, GS4, GS5, GS6, GS7, GS8, GS9, GS10, GS11, TT_eq, TTl, Nat.reduceAdd, Nat.reduceMul, Nat.reduceSub, Nat.reduceDiv, Nat.reduceMod, Nat.reducePow, Nat.reduceEqDiff, ↓reduceIte, reduceCtorEq, true_and, and_true, and_self, false_and, and_false, Int.reduceToNat, Int.reduceAdd, Int.reduceSub, Int.reduceMul, cond_true, cond_false, List.toList_toArray, Option.map_some, Option.map_none, Option.some.injEq, List.cons_append, List.nil_append, List.length_cons, List.length_nil, List.getD_cons_zero, List.getD_cons_succ, q4, q5, q6, hA, hB]
          refine hold_loop okT (rs := [.tmp 4]) rfl [12] [4, 76, 77, 78, 79, 80, 81, 82, 83, 84, 85, 86, 87, 88, 89, 90, 91, 92, 93, 94, 95, 96, 97] (fun vs w' => ∃ k : Nat, k ≤ x.list.length ∧ vs = [.int .i64 k] ∧ w' = w1 ∧ ∀ v ∈ x.list.take k, 0 ≤ v ∧ v < n) (fun vs _ => match vs with | [.int _ i] => x.list.length - i.toNat | _ => 0) (by kernel_rfl) ⟨0, by omega, rfl, rfl, by simp⟩ ?_
          rintro vs w' J ⟨k, hk, rfl, rfl, hall⟩
          by_cases hlt : k < x.list.length
          · obtain ⟨b1, o1, c1, e1, _, g1⟩ := hrd.at (by omega) (by omega)
            have f1 := g1 k _ (getI hlt)
            rw [Value.slice.injEq] at e1
            obtain ⟨rfl, -, -⟩ := e1
            have htk : x.list.take (k + 1) = x.list.take k ++ [x.list[k]] := List.take_succ_eq_append_getElem hlt
            have hmem := List.getElem_mem hlt
            generalize x.list[k] = v at f1 htk hmem
            by_cases h0 : v < 0
            · rw [List.all_eq_false.2 ⟨v, hmem, by simp; omega⟩] at hR
              simp (config := { maxSteps := 1000000 }) (disch := first | omega | (simp only [sizeAlloc, sizeDrew, sizeSet, sizePut] <;> omega) | fail) only [GS1, GS2, GS3, GS4, GS5, GS6, GS7, GS8, GS9, GS10, GS11, TT_eq, TTl, Nat.reduceAdd, Nat.reduceMul, Nat.reduceSub, Nat.reduceDiv, Nat.reduceMod, Nat.reducePow, Nat.reduceEqDiff, ↓reduceIte, reduceCtorEq, true_and, and_true, and_self, false_and, and_false, Int.reduceToNat, Int.reduceAdd, Int.reduceSub, Int.reduceMul, cond_true, cond_false, List.toList_toArray, Option.map_some, Option.map_none, Option.some.injEq, List.cons_append, List.nil_append, List.length_cons, List.length_nil, List.getD_cons_zero, List.getD_cons_succ, q6, f1]
              exact hR
            · by_cases h1 : v < n
              · simp (config := { maxSteps := 1000000 }) (disch := first | omega | (simp only [sizeAlloc, sizeDrew, sizeSet, sizePut] <;> omega) | fail) only [GS1, GS2, GS3, GS4, GS5, GS6, GS7, GS8, GS9, GS10, GS11, TT_eq, TTl, Nat.reduceAdd, Nat.reduceMul, Nat.reduceSub, Nat.reduceDiv, Nat.reduceMod, Nat.reducePow, Nat.reduceEqDiff, ↓reduceIte, reduceCtorEq, true_and, and_true, and_self, false_and, and_false, Int.reduceToNat, Int.reduceAdd, Int.reduceSub, Int.reduceMul, cond_true, cond_false, List.toList_toArray, Option.map_some, Option.map_none, Option.some.injEq, List.cons_append, List.nil_append, List.length_cons, List.length_nil, List.getD_cons_zero, List.getD_cons_succ, q6, f1]
                refine ⟨⟨k + 1, by omega, rfl, ?_⟩, by omega⟩
                intro u hu
                rw [htk, List.mem_append, List.mem_singleton] at hu
                rcases hu with hu | rfl
                · exact hall u hu
                · omega
              · rw [List.all_eq_false.2 ⟨v, hmem, by simp; omega⟩] at hR
                simp (config := { maxSteps := 1000000 }) (disch := first | omega | (simp only [sizeAlloc, sizeDrew, sizeSet, sizePut] <;> omega) | fail) only [GS1, GS2, GS3, GS4, GS5, GS6, GS7, GS8, GS9, GS10, GS11, TT_eq, TTl, Nat.reduceAdd, Nat.reduceMul, Nat.reduceSub, Nat.reduceDiv, Nat.reduceMod, Nat.reducePow, Nat.reduceEqDiff, ↓reduceIte, reduceCtorEq, true_and, and_true, and_self, false_and, and_false, Int.reduceToNat, Int.reduceAdd, Int.reduceSub, Int.reduceMul, cond_true, cond_false, List.toList_toArray, Option.map_some, Option.map_none, Option.some.injEq, List.cons_append, List.nil_append, List.length_cons, List.length_nil, List.getD_cons_zero, List.getD_cons_succ, q6, f1]
                exact hR
          · have e : k = x.list.length := by omega
            subst e
            rw [List.take_length] at hall
            rw [List.all_eq_true.2 (fun v hv => decide_eq_true (hall v hv))] at hR
            simp (config := { maxSteps := 1000000 }) (disch := first | omega | (simp only [sizeAlloc, sizeDrew, sizeSet, sizePut] <;> omega) | fail) only [GS1, GS2, GS3, GS4, GS5, GS6, GS7, GS8, GS9, GS10, GS11, TT_eq, TTl, Nat.reduceAdd, Nat.reduceMul, Nat.reduceSub, Nat.reduceDiv, Nat.reduceMod, Nat.reducePow, Nat.reduceEqDiff, ↓reduceIte, reduceCtorEq, true_and, and_true, and_self, false_and, and_false, Int.reduceToNat, Int.reduceAdd, Int.reduceSub, Int.reduceMul, cond_true, cond_false, List.toList_toArray, Option.map_some, Option.map_none, Option.some.injEq, List.cons_append, List.nil_append, List.length_cons, List.length_nil, List.getD_cons_zero, List.getD_cons_succ, q6]
            exact hR
        · have hc0 : x.list.length = 0 := by rw [hC]; rfl
          have hCd : decide (x.list = []) = true := decide_eq_true hC
          simp only [Bool.true_or, Bool.false_or, Bool.true_and, Bool.and_true, decide_true, hA, hB, hCd] at hR
          simp (config := { maxSteps := 1000000 }) (disch := first | omega | (simp only [sizeAlloc, sizeDrew, sizeSet, sizePut] <;> omega) | fail) only [GS1, GS2, GS3, GS4, GS5, GS6, GS7, GS8, GS9, GS10, GS11, TT_eq, TTl, Nat.reduceAdd, Nat.reduceMul, Nat.reduceSub, Nat.reduceDiv, Nat.reduceMod, Nat.reducePow, Nat.reduceEqDiff, ↓reduceIte, reduceCtorEq, true_and, and_true, and_self, false_and, and_false, Int.reduceToNat, Int.reduceAdd, Int.reduceSub, Int.reduceMul, cond_true, cond_false, List.toList_toArray, Option.map_some, Option.map_none, Option.some.injEq, List.cons_append, List.nil_append, List.length_cons, List.length_nil, List.getD_cons_zero, List.getD_cons_succ, q4, q5, q6, hA, hB]
          refine hold_loop okT (rs := [.tmp 4]) rfl [12] [4, 76, 77, 78, 79, 80, 81, 82, 83, 84, 85, 86, 87, 88, 89, 90, 91, 92, 93, 94, 95, 96, 97] (fun vs w' => ∃ k : Nat, k ≤ x.list.length ∧ vs = [.int .i64 k] ∧ w' = w1 ∧ ∀ v ∈ x.list.take k, 0 ≤ v ∧ v < n) (fun vs _ => match vs with | [.int _ i] => x.list.length - i.toNat | _ => 0) (by kernel_rfl) ⟨0, by omega, rfl, rfl, by simp⟩ ?_
          rintro vs w' J ⟨k, hk, rfl, rfl, hall⟩
          by_cases hlt : k < x.list.length
          · omega
          · have e : k = x.list.length := by omega
            subst e
            rw [List.take_length] at hall
            rw [List.all_eq_true.2 (fun v hv => decide_eq_true (hall v hv))] at hR
            simp (config := { maxSteps := 1000000 }) (disch := first | omega | (simp only [sizeAlloc, sizeDrew, sizeSet, sizePut] <;> omega) | fail) only [GS1, GS2, GS3, GS4, GS5, GS6, GS7, GS8, GS9, GS10, GS11, TT_eq, TTl, Nat.reduceAdd, Nat.reduceMul, Nat.reduceSub, Nat.reduceDiv, Nat.reduceMod, Nat.reducePow, Nat.reduceEqDiff, ↓reduceIte, reduceCtorEq, true_and, and_true, and_self, false_and, and_false, Int.reduceToNat, Int.reduceAdd, Int.reduceSub, Int.reduceMul, cond_true, cond_false, List.toList_toArray, Option.map_some, Option.map_none, Option.some.injEq, List.cons_append, List.nil_append, List.length_cons, List.length_nil, List.getD_cons_zero, List.getD_cons_succ, q6]
            exact hR
        · have hc0 : x.list.length ≠ 0 := fun e => hh (List.eq_nil_of_length_eq_zero e)
          simp only [hh, decide_false, Bool.false_or, Bool.and_false, Bool.false_and] at hR
          simp (config := { maxSteps := 1000000 }) (disch := first | omega | (simp only [sizeAlloc, sizeDrew, sizeSet, sizePut] <;> omega) | fail) only [GS1, GS2, GS3, GS4, GS5, GS6, GS7, GS8, GS9, GS10, GS11, TT_eq, TTl, Nat.reduceAdd, Nat.reduceMul, Nat.reduceSub, Nat.reduceDiv, Nat.reduceMod, Nat.reducePow, Nat.reduceEqDiff, ↓reduceIte, reduceCtorEq, true_and, and_true, and_self, false_and, and_false, Int.reduceToNat, Int.reduceAdd, Int.reduceSub, Int.reduceMul, cond_true, cond_false, List.toList_toArray, Option.map_some, Option.map_none, Option.some.injEq, List.cons_append, List.nil_append, List.length_cons, List.length_nil, List.getD_cons_zero, List.getD_cons_succ, q4, q5, q6, hA, hB]
          exact hR
      · simp only [hh, decide_false, Bool.false_or, Bool.and_false, Bool.false_and] at hR
        have h2d : decide (x.text = []) = false := by simp [hh]
        simp (config := { maxSteps := 1000000 }) (disch := first | omega | (simp only [sizeAlloc, sizeDrew, sizeSet, sizePut] <;> omega) | fail) only [GS1, GS2, GS3, GS4, GS5, GS6, GS7, GS8, GS9, GS10, GS11, TT_eq, TTl, Nat.reduceAdd, Nat.reduceMul, Nat.reduceSub, Nat.reduceDiv, Nat.reduceMod, Nat.reducePow, Nat.reduceEqDiff, ↓reduceIte, reduceCtorEq, true_and, and_true, and_self, false_and, and_false, Int.reduceToNat, Int.reduceAdd, Int.reduceSub, Int.reduceMul, cond_true, cond_false, List.toList_toArray, Option.map_some, Option.map_none, Option.some.injEq, List.cons_append, List.nil_append, List.length_cons, List.length_nil, List.getD_cons_zero, List.getD_cons_succ, q4, q5, q6, hh, h2d, hA]
        exact hR
    · simp only [hh, decide_false, Bool.false_or, Bool.and_false, Bool.false_and] at hR
      simp (config := { maxSteps := 1000000 }) (disch := first | omega | (simp only [sizeAlloc, sizeDrew, sizeSet, sizePut] <;> omega) | fail) only [GS1, GS2, GS3, GS4, GS5, GS6, GS7, GS8, GS9, GS10, GS11, TT_eq, TTl, Nat.reduceAdd, Nat.reduceMul, Nat.reduceSub, Nat.reduceDiv, Nat.reduceMod, Nat.reducePow, Nat.reduceEqDiff, ↓reduceIte, reduceCtorEq, true_and, and_true, and_self, false_and, and_false, Int.reduceToNat, Int.reduceAdd, Int.reduceSub, Int.reduceMul, cond_true, cond_false, List.toList_toArray, Option.map_some, Option.map_none, Option.some.injEq, List.cons_append, List.nil_append, List.length_cons, List.length_nil, List.getD_cons_zero, List.getD_cons_succ, q4, q5, q6, hh]
      exact hR
end Go.Proofs.Yticoollhaachfaa
