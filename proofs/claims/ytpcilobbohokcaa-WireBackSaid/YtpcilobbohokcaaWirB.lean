/-
  wire: the forms' writers (walks).
-/
import Derived.Test.YtpcilobbohokcaaWirA
set_option linter.unusedSimpArgs false
set_option linter.unusedVariables false
namespace Go.Proofs.Ytpcilobbohokcaa
open Go Go.Wk Go.RowKit
attribute [local irreducible] go Hold
open Go.Lib
def k5L (m : Msg) : List (List UInt8) := if m.yes = true then [yesS m.yes, m.tag] else [yesS m.yes]
set_option maxRecDepth 20000 in
set_option maxHeartbeats 4000000 in
theorem wK5_cps (m : Msg) (sa : Value) (w : World) (R : Ending → World → Prop) (hR : ∀ sv w', w'.ownsRow w.heap.size 9 1 sv (k5L m).length ((k5L m).map strV) → Mod [] w w' → R (.returned sv) w') : Calls Try.prog 103 #[msgV m sa] w R := by
  have hy := wYes_cps m sa
  unfold k5L at hR
  obtain ⟨k, ⟨a, b, c⟩, aud, mbs, body, yes, tag⟩ := m
  unfold msgV msgC at hy ⊢
  simp only at hR hy ⊢
  refine calls_go 4000 okT Try.func103 rfl (rs := [.tmp 2]) rfl Try.ntmps103 (args := [.agg #[.int .u8 k, .int .i64 a, .int .i64 b, .int .i64 c, .int .i64 aud, sa, .string ⟨body.toArray⟩, .bool yes, .string ⟨tag.toArray⟩]]) ?_
  cases yes
  · simp only [Bool.false_eq_true, if_false] at hR
    simp (config := { maxSteps := 1000000 }) (disch := first | omega | (simp only [sizeAlloc, sizeDrew, sizeSet, sizePut] <;> omega) | fail) only [GS1, GS2, GS3, GS4, GS5, GS6, GS7, GS8, GS9, GS10, GS11, TT_eq, TTl, Nat.reduceAdd, Nat.reduceMul, Nat.reduceSub, Nat.reduceDiv, Nat.reduceMod, Nat.reducePow, Nat.reduceEqDiff, ↓reduceIte, reduceCtorEq, true_and, and_true, and_self, false_and, and_false, Int.reduceToNat, Int.reduceAdd, Int.reduceSub, Int.reduceMul, cond_true, cond_false, List.toList_toArray, Option.map_some, Option.map_none, Option.some.injEq, List.cons_append, List.nil_append, List.length_cons, List.length_nil, List.getD_cons_zero, List.getD_cons_succ]
    refine ⟨fok104, hy _ _ fun w1 hM => .inl ⟨_, rfl, hold_ops okT (rs := [.tmp 2]) rfl ?_⟩⟩
    simp (config := { maxSteps := 1000000 }) (disch := first | omega | (simp only [sizeAlloc, sizeDrew, sizeSet, sizePut] <;> omega) | fail) only [GS1, GS2, GS3, GS4, GS5, GS6, GS7, GS8, GS9, GS10, GS11, TT_eq, TTl, Nat.reduceAdd, Nat.reduceMul, Nat.reduceSub, Nat.reduceDiv, Nat.reduceMod, Nat.reducePow, Nat.reduceEqDiff, ↓reduceIte, reduceCtorEq, true_and, and_true, and_self, false_and, and_false, Int.reduceToNat, Int.reduceAdd, Int.reduceSub, Int.reduceMul, cond_true, cond_false, List.toList_toArray, Option.map_some, Option.map_none, Option.some.injEq, List.cons_append, List.nil_append, List.length_cons, List.length_nil, List.getD_cons_zero, List.getD_cons_succ]
    exact hR _ _ (rowNew [strV (yesS false)] (by unfold maxLen; simp) (by have := hM.size; rw [sizeAlloc] at this; omega)) ((((Mod.refl _ w).alloc _).trans hM (by simp)).alloc _)
  · simp only [if_true] at hR
    simp (config := { maxSteps := 1000000 }) (disch := first | omega | (simp only [sizeAlloc, sizeDrew, sizeSet, sizePut] <;> omega) | fail) only [GS1, GS2, GS3, GS4, GS5, GS6, GS7, GS8, GS9, GS10, GS11, TT_eq, TTl, Nat.reduceAdd, Nat.reduceMul, Nat.reduceSub, Nat.reduceDiv, Nat.reduceMod, Nat.reducePow, Nat.reduceEqDiff, ↓reduceIte, reduceCtorEq, true_and, and_true, and_self, false_and, and_false, Int.reduceToNat, Int.reduceAdd, Int.reduceSub, Int.reduceMul, cond_true, cond_false, List.toList_toArray, Option.map_some, Option.map_none, Option.some.injEq, List.cons_append, List.nil_append, List.length_cons, List.length_nil, List.getD_cons_zero, List.getD_cons_succ]
    have hM0 := (Mod.refl [] w).alloc (.cells #[.int .u8 k, .int .i64 a, .int .i64 b, .int .i64 c, .int .i64 aud, sa, .string ⟨body.toArray⟩, .bool true, .string ⟨tag.toArray⟩] 42)
    have hh := heapNew (w := w) (o := .cells #[.int .u8 k, .int .i64 a, .int .i64 b, .int .i64 c, .int .i64 aud, sa, .string ⟨body.toArray⟩, .bool true, .string ⟨tag.toArray⟩] 42)
    generalize w.alloc (.cells #[.int .u8 k, .int .i64 a, .int .i64 b, .int .i64 c, .int .i64 aud, sa, .string ⟨body.toArray⟩, .bool true, .string ⟨tag.toArray⟩] 42) = w1 at hM0 hh ⊢
    generalize hn : w.heap.size = n at *
    refine hold_draw okT (rs := [.tmp 2]) rfl [0, 1, 0, 4, 15, 31] [0, 2, 3, 1, 4, 5] (by kernel_rfl) (by kernel_rfl) ?_
    have hh1 : (w1.drewN 1).heap[n]? = _ := hh
    have hM1 := hM0.drewN 1
    generalize w1.drewN 1 = w2 at *
    have c2 := fun o => cellOf (o := o) hh1
    simp (config := { maxSteps := 1000000 }) (disch := first | omega | (simp only [sizeAlloc, sizeDrew, sizeSet, sizePut] <;> omega) | fail) only [GS1, GS2, GS3, GS4, GS5, GS6, GS7, GS8, GS9, GS10, GS11, TT_eq, TTl, Nat.reduceAdd, Nat.reduceMul, Nat.reduceSub, Nat.reduceDiv, Nat.reduceMod, Nat.reducePow, Nat.reduceEqDiff, ↓reduceIte, reduceCtorEq, true_and, and_true, and_self, false_and, and_false, Int.reduceToNat, Int.reduceAdd, Int.reduceSub, Int.reduceMul, cond_true, cond_false, List.toList_toArray, Option.map_some, Option.map_none, Option.some.injEq, List.cons_append, List.nil_append, List.length_cons, List.length_nil, List.getD_cons_zero, List.getD_cons_succ, c2]
    refine ⟨fok104, hy _ _ fun w3 hM3 => .inl ⟨_, rfl, cellM (c2 8) hM3, hold_dops okT (rs := [.tmp 2]) rfl ?_⟩⟩
    simp (config := { maxSteps := 1000000 }) (disch := first | omega | (simp only [sizeAlloc, sizeDrew, sizeSet, sizePut] <;> omega) | fail) only [GS1, GS2, GS3, GS4, GS5, GS6, GS7, GS8, GS9, GS10, GS11, TT_eq, TTl, Nat.reduceAdd, Nat.reduceMul, Nat.reduceSub, Nat.reduceDiv, Nat.reduceMod, Nat.reducePow, Nat.reduceEqDiff, ↓reduceIte, reduceCtorEq, true_and, and_true, and_self, false_and, and_false, Int.reduceToNat, Int.reduceAdd, Int.reduceSub, Int.reduceMul, cond_true, cond_false, List.toList_toArray, Option.map_some, Option.map_none, Option.some.injEq, List.cons_append, List.nil_append, List.length_cons, List.length_nil, List.getD_cons_zero, List.getD_cons_succ]
    have hM13 := hM1.trans hM3 (by simp)
    exact hR _ _ (rowNew [strV (yesS true), strV tag] (by unfold maxLen; simp) (by have := hM13.size; omega)) (hM13.alloc _)
end Go.Proofs.Ytpcilobbohokcaa
