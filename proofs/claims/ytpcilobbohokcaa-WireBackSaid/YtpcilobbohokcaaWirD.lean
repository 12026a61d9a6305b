/-
  wire: the prepare's writer (walk).
-/
import Derived.Test.YtpcilobbohokcaaWirC
set_option linter.unusedSimpArgs false
set_option linter.unusedVariables false
namespace Go.Proofs.Ytpcilobbohokcaa
open Go Go.Wk Go.RowKit
attribute [local irreducible] go Hold
open Go.Lib
def k2L (m : Msg) : List (List UInt8) := [numE m.aud, (mbrsS m.tx.1 m.mbs).1, m.body]
set_option maxRecDepth 20000 in
set_option maxHeartbeats 4000000 in
theorem wK2_cps (m : Msg) (sa : Value) (h1 : -9223372036854775808 ≤ m.aud) (h2 : m.aud ≤ 9223372036854775807) (hl : m.mbs.length ≤ 1000000) (hd : ∀ x ∈ m.mbs, x.2.length ≤ maxLen) (w : World) (ha : Rd w 2 sa m.mbs.length (m.mbs.flatMap mbC)) (R : Ending → World → Prop) (hR : ∀ sv w', w'.ownsRow w.heap.size 9 1 sv (k2L m).length ((k2L m).map strV) → Mod [] w w' → R (.returned sv) w') : Calls Try.prog 98 #[msgV m sa] w R := by
  unfold k2L at hR
  obtain ⟨k, ⟨a, b, c⟩, aud, mbs, body, yes, tag⟩ := m
  unfold msgV msgC
  simp only at hR h1 h2 hl hd ha ⊢
  refine calls_go 4000 okT Try.func98 rfl (rs := [.tmp 2]) rfl Try.ntmps98 (args := [.agg #[.int .u8 k, .int .i64 a, .int .i64 b, .int .i64 c, .int .i64 aud, sa, .string ⟨body.toArray⟩, .bool yes, .string ⟨tag.toArray⟩]]) ?_
  simp (config := { maxSteps := 1000000 }) (disch := first | omega | (simp only [sizeAlloc, sizeDrew, sizeSet, sizePut] <;> omega) | fail) only [GS1, GS2, GS3, GS4, GS5, GS6, GS7, GS8, GS9, GS10, GS11, TT_eq, TTl, Nat.reduceAdd, Nat.reduceMul, Nat.reduceSub, Nat.reduceDiv, Nat.reduceMod, Nat.reducePow, Nat.reduceEqDiff, ↓reduceIte, reduceCtorEq, true_and, and_true, and_self, false_and, and_false, Int.reduceToNat, Int.reduceAdd, Int.reduceSub, Int.reduceMul, cond_true, cond_false, List.toList_toArray, Option.map_some, Option.map_none, Option.some.injEq, List.cons_append, List.nil_append, List.length_cons, List.length_nil, List.getD_cons_zero, List.getD_cons_succ]
  have hM0 := (Mod.refl [] w).alloc (.cells #[.int .u8 k, .int .i64 a, .int .i64 b, .int .i64 c, .int .i64 aud, sa, .string ⟨body.toArray⟩, .bool yes, .string ⟨tag.toArray⟩] 42)
  have hh := heapNew (w := w) (o := .cells #[.int .u8 k, .int .i64 a, .int .i64 b, .int .i64 c, .int .i64 aud, sa, .string ⟨body.toArray⟩, .bool yes, .string ⟨tag.toArray⟩] 42)
  generalize w.alloc (.cells #[.int .u8 k, .int .i64 a, .int .i64 b, .int .i64 c, .int .i64 aud, sa, .string ⟨body.toArray⟩, .bool yes, .string ⟨tag.toArray⟩] 42) = w1 at hM0 hh ⊢
  generalize hn : w.heap.size = n at *
  refine ⟨fok44, wMembers_cps (a, b, c) sa mbs _ _ hl hd (ha.mod hM0 (by simp)) fun w2 hM => .inl ⟨_, rfl, hold_ops okT (rs := [.tmp 2]) rfl ?_⟩⟩
  have hh2 := hM.get hh (by simp)
  have hM2 := hM0.trans hM (by simp)
  simp only at hR ⊢
  generalize mbrsS a mbs = P at hR ⊢
  obtain ⟨t, e⟩ := P
  unfold stV
  simp (config := { maxSteps := 1000000 }) (disch := first | omega | (simp only [sizeAlloc, sizeDrew, sizeSet, sizePut] <;> omega) | fail) only [GS1, GS2, GS3, GS4, GS5, GS6, GS7, GS8, GS9, GS10, GS11, TT_eq, TTl, Nat.reduceAdd, Nat.reduceMul, Nat.reduceSub, Nat.reduceDiv, Nat.reduceMod, Nat.reducePow, Nat.reduceEqDiff, ↓reduceIte, reduceCtorEq, true_and, and_true, and_self, false_and, and_false, Int.reduceToNat, Int.reduceAdd, Int.reduceSub, Int.reduceMul, cond_true, cond_false, List.toList_toArray, Option.map_some, Option.map_none, Option.some.injEq, List.cons_append, List.nil_append, List.length_cons, List.length_nil, List.getD_cons_zero, List.getD_cons_succ]
  refine hold_draw okT (rs := [.tmp 2]) rfl [0, 1, 3, 0, 0, 16, 63, 127] [0, 1, 3, 4, 5, 2, 6, 7] (by kernel_rfl) (by kernel_rfl) ?_
  have hh3 : (w2.drewN 1).heap[n]? = _ := hh2
  have hM3 := hM2.drewN 1
  generalize w2.drewN 1 = w3 at *
  have c3 := fun o => cellOf (o := o) hh3
  simp (config := { maxSteps := 1000000 }) (disch := first | omega | (simp only [sizeAlloc, sizeDrew, sizeSet, sizePut] <;> omega) | fail) only [GS1, GS2, GS3, GS4, GS5, GS6, GS7, GS8, GS9, GS10, GS11, TT_eq, TTl, Nat.reduceAdd, Nat.reduceMul, Nat.reduceSub, Nat.reduceDiv, Nat.reduceMod, Nat.reducePow, Nat.reduceEqDiff, ↓reduceIte, reduceCtorEq, true_and, and_true, and_self, false_and, and_false, Int.reduceToNat, Int.reduceAdd, Int.reduceSub, Int.reduceMul, cond_true, cond_false, List.toList_toArray, Option.map_some, Option.map_none, Option.some.injEq, List.cons_append, List.nil_append, List.length_cons, List.length_nil, List.getD_cons_zero, List.getD_cons_succ, c3]
  refine ⟨fok83, wNum_cps aud h1 h2 _ _ fun w4 hM4 => .inl ⟨_, rfl, cellM (c3 6) hM4, hold_dops okT (rs := [.tmp 2]) rfl ?_⟩⟩
  simp (config := { maxSteps := 1000000 }) (disch := first | omega | (simp only [sizeAlloc, sizeDrew, sizeSet, sizePut] <;> omega) | fail) only [GS1, GS2, GS3, GS4, GS5, GS6, GS7, GS8, GS9, GS10, GS11, TT_eq, TTl, Nat.reduceAdd, Nat.reduceMul, Nat.reduceSub, Nat.reduceDiv, Nat.reduceMod, Nat.reducePow, Nat.reduceEqDiff, ↓reduceIte, reduceCtorEq, true_and, and_true, and_self, false_and, and_false, Int.reduceToNat, Int.reduceAdd, Int.reduceSub, Int.reduceMul, cond_true, cond_false, List.toList_toArray, Option.map_some, Option.map_none, Option.some.injEq, List.cons_append, List.nil_append, List.length_cons, List.length_nil, List.getD_cons_zero, List.getD_cons_succ]
  have hM34 := hM3.trans hM4 (by simp)
  exact hR _ _ (rowNew [strV (numE aud), strV t, strV body] (by unfold maxLen; simp) (by have := hM34.size; omega)) (hM34.alloc _)
end Go.Proofs.Ytpcilobbohokcaa
