/-
  wire.try (walk).
-/
import Derived.Test.YtpcilobbohokcaaWir4
set_option linter.unusedSimpArgs false
set_option linter.unusedVariables false
namespace Go.Proofs.Ytpcilobbohokcaa
open Go Go.Wk Go.RowKit
attribute [local irreducible] go Hold
open Go.Lib
theorem wtryD_ret (p : Value) (w : World) (R : Ending → FrameMode → World → Prop) (hR : R (.returned (.tuple #[])) .returning w) :
    CallsR Try.prog 92 #[p] .returning w R := by
  refine callsDIn_of_wpSIn Try.func92 rfl (by trivial) fun c₀ cs hu => ?_
  apply wpSIn_seq
  apply wpSIn_region
  simp [wpOpsSIn, go_sem, recoverD, hu, Try.ntmps92, Exit.thenS]
  have e : c₀ = { c₀ with mode := .returning } := by cases c₀; simp only at hu; subst hu; rfl
  rw [e]
  refine wpS_go (fs := [p, .nilIface, undef, undef, .nilIface, undef, undef, undef, undef, undef, undef, undef, undef, undef, undef]) okT (rs := []) rfl ?_
  simp (config := { maxSteps := 1000000 }) (disch := first | omega | (simp only [sizeAlloc, sizeDrew, sizeSet, sizePut] <;> omega) | fail) only [GS1, GS2, GS3, GS4, GS5, GS6, GS7, GS8, GS9, GS10, GS11, TT_eq, TTl, Nat.reduceAdd, Nat.reduceMul, Nat.reduceSub, Nat.reduceDiv, Nat.reduceMod, Nat.reducePow, Nat.reduceEqDiff, ↓reduceIte, reduceCtorEq, true_and, and_true, and_self, false_and, and_false, Int.reduceToNat, Int.reduceAdd, Int.reduceSub, Int.reduceMul, cond_true, cond_false, List.toList_toArray, Option.map_some, Option.map_none, Option.some.injEq, List.cons_append, List.nil_append, List.length_cons, List.length_nil, List.getD_cons_zero, List.getD_cons_succ]
  unfold recEnd
  simp (config := { maxSteps := 1000000 }) (disch := first | omega | (simp only [sizeAlloc, sizeDrew, sizeSet, sizePut] <;> omega) | fail) only [GS1, GS2, GS3, GS4, GS5, GS6, GS7, GS8, GS9, GS10, GS11, TT_eq, TTl, Nat.reduceAdd, Nat.reduceMul, Nat.reduceSub, Nat.reduceDiv, Nat.reduceMod, Nat.reducePow, Nat.reduceEqDiff, ↓reduceIte, reduceCtorEq, true_and, and_true, and_self, false_and, and_false, Int.reduceToNat, Int.reduceAdd, Int.reduceSub, Int.reduceMul, cond_true, cond_false, List.toList_toArray, Option.map_some, Option.map_none, Option.some.injEq, List.cons_append, List.nil_append, List.length_cons, List.length_nil, List.getD_cons_zero, List.getD_cons_succ]
  exact hR
def wnoneD : List PanicEntry := [{ v := .iface 147 (.agg #[]), recovered := true }]
set_option maxHeartbeats 2000000 in
theorem wtryD_pan (a : Nat) (x : Value) (ta : Nat) (w : World) (hA : w.heap[a]? = some (.cells #[x] ta (0, 0))) (R : Ending → FrameMode → World → Prop)
    (hR : ∀ w', w'.heap[a]? = some (.cells #[.bool false] ta (0, 0)) → Mod [a] w w' → R (.returned (.tuple #[])) (.panicking wnoneD) w') :
    CallsR Try.prog 92 #[.pointer (some ⟨a, 0, none⟩)] (.panicking wnoneV) w R := by
  refine callsDIn_of_wpSIn Try.func92 rfl (by trivial) fun c₀ cs hu => ?_
  apply wpSIn_seq
  apply wpSIn_region
  unfold wnoneV at hu
  simp [wpOpsSIn, go_sem, recoverD, hu, Try.ntmps92, Exit.thenS]
  refine wpS_go (u := .panicking wnoneD) (fs := [.pointer (some ⟨a, 0, none⟩), .iface 147 (.agg #[]), undef, undef, .iface 147 (.agg #[]), undef, undef, undef, undef, undef, undef, undef, undef, undef, undef]) okT (rs := []) rfl ?_
  have hA1 : (w.alloc (.cells #[] 147)).heap[a]? = _ := heapAlloc hA
  have hca : (w.alloc (.cells #[] 147)).cell? ⟨a, 0, none⟩ = some x := by rw [cellOf hA1]; rfl
  have hfa := frozenOf (o := 0) hA1
  simp (config := { maxSteps := 1000000 }) (disch := first | omega | (simp only [sizeAlloc, sizeDrew, sizeSet, sizePut] <;> omega) | fail) only [GS1, GS2, GS3, GS4, GS5, GS6, GS7, GS8, GS9, GS10, GS11, TT_eq, TTl, Nat.reduceAdd, Nat.reduceMul, Nat.reduceSub, Nat.reduceDiv, Nat.reduceMod, Nat.reducePow, Nat.reduceEqDiff, ↓reduceIte, reduceCtorEq, true_and, and_true, and_self, false_and, and_false, Int.reduceToNat, Int.reduceAdd, Int.reduceSub, Int.reduceMul, cond_true, cond_false, List.toList_toArray, Option.map_some, Option.map_none, Option.some.injEq, List.cons_append, List.nil_append, List.length_cons, List.length_nil, List.getD_cons_zero, List.getD_cons_succ, hca, hfa]
  unfold recEnd
  simp (config := { maxSteps := 1000000 }) (disch := first | omega | (simp only [sizeAlloc, sizeDrew, sizeSet, sizePut] <;> omega) | fail) only [GS1, GS2, GS3, GS4, GS5, GS6, GS7, GS8, GS9, GS10, GS11, TT_eq, TTl, Nat.reduceAdd, Nat.reduceMul, Nat.reduceSub, Nat.reduceDiv, Nat.reduceMod, Nat.reducePow, Nat.reduceEqDiff, ↓reduceIte, reduceCtorEq, true_and, and_true, and_self, false_and, and_false, Int.reduceToNat, Int.reduceAdd, Int.reduceSub, Int.reduceMul, cond_true, cond_false, List.toList_toArray, Option.map_some, Option.map_none, Option.some.injEq, List.cons_append, List.nil_append, List.length_cons, List.length_nil, List.getD_cons_zero, List.getD_cons_succ]
  exact hR _ (heapSet hA1) (((Mod.refl _ _).alloc _).set (p := ⟨a, 0, none⟩) (.inl (by simp)) _)
set_option maxHeartbeats 4000000 in
theorem wTry_cps (g : Nat) (cap : Array Value) (hg : FOk Try.prog g) (w : World) (R : Ending → World → Prop) (A B : World → Prop)
    (hdo : Calls Try.prog g cap (w.alloc (.cells #[.bool false] 4)) (fun e w' => (e = .returned (.tuple #[]) ∧ A w' ∨ e = .panicked wnoneV ∧ B w') ∧ w'.heap[w.heap.size]? = some (.cells #[.bool false] 4 (0, 0)) ∧ w.heap.size + 1 ≤ w'.heap.size))
    (hA : ∀ w1 w2, A w1 → Mod [w.heap.size] w1 w2 → R (.returned (.bool true)) w2) (hB : ∀ w1 w2, B w1 → Mod [w.heap.size] w1 w2 → R (.returned (.bool false)) w2) :
    Calls Try.prog 54 #[.func (.func g) #[] cap] w R := by
  refine calls_go 4000 okT Try.func54 rfl (rs := [.cell 2 4]) rfl Try.ntmps54 (args := [.func (.func g) #[] cap]) ?_
  simp (config := { maxSteps := 1000000 }) (disch := first | omega | (simp only [sizeAlloc, sizeDrew, sizeSet, sizePut] <;> omega) | fail) only [GS1, GS2, GS3, GS4, GS5, GS6, GS7, GS8, GS9, GS10, GS11, TT_eq, TTl, Nat.reduceAdd, Nat.reduceMul, Nat.reduceSub, Nat.reduceDiv, Nat.reduceMod, Nat.reducePow, Nat.reduceEqDiff, ↓reduceIte, reduceCtorEq, true_and, and_true, and_self, false_and, and_false, Int.reduceToNat, Int.reduceAdd, Int.reduceSub, Int.reduceMul, cond_true, cond_false, List.toList_toArray, Option.map_some, Option.map_none, Option.some.injEq, List.cons_append, List.nil_append, List.length_cons, List.length_nil, List.getD_cons_zero, List.getD_cons_succ]
  refine hold_defer rfl rfl (hold_ops okT (rs := [.cell 2 4]) rfl ?_)
  simp (config := { maxSteps := 1000000 }) (disch := first | omega | (simp only [sizeAlloc, sizeDrew, sizeSet, sizePut] <;> omega) | fail) only [GS1, GS2, GS3, GS4, GS5, GS6, GS7, GS8, GS9, GS10, GS11, TT_eq, TTl, Nat.reduceAdd, Nat.reduceMul, Nat.reduceSub, Nat.reduceDiv, Nat.reduceMod, Nat.reducePow, Nat.reduceEqDiff, ↓reduceIte, reduceCtorEq, true_and, and_true, and_self, false_and, and_false, Int.reduceToNat, Int.reduceAdd, Int.reduceSub, Int.reduceMul, cond_true, cond_false, List.toList_toArray, Option.map_some, Option.map_none, Option.some.injEq, List.cons_append, List.nil_append, List.length_cons, List.length_nil, List.getD_cons_zero, List.getD_cons_succ]
  rw [Array.toArray_toList]
  generalize hn : w.heap.size = n at *
  refine ⟨hg, callW_any hdo ?_⟩
  rintro e w1 ⟨⟨rfl, hA1⟩ | ⟨rfl, hB1⟩, hc, hsz⟩
  · refine .inl ⟨_, rfl, hold_ops okT (rs := [.cell 2 4]) rfl ?_⟩
    have c1 : w1.cell? ⟨n, 0, none⟩ = some (.bool false) := by rw [cellOf hc]; rfl
    have z1 := frozenOf (o := 0) hc
    simp (config := { maxSteps := 1000000 }) (disch := first | omega | (simp only [sizeAlloc, sizeDrew, sizeSet, sizePut] <;> omega) | fail) only [GS1, GS2, GS3, GS4, GS5, GS6, GS7, GS8, GS9, GS10, GS11, TT_eq, TTl, Nat.reduceAdd, Nat.reduceMul, Nat.reduceSub, Nat.reduceDiv, Nat.reduceMod, Nat.reducePow, Nat.reduceEqDiff, ↓reduceIte, reduceCtorEq, true_and, and_true, and_self, false_and, and_false, Int.reduceToNat, Int.reduceAdd, Int.reduceSub, Int.reduceMul, cond_true, cond_false, List.toList_toArray, Option.map_some, Option.map_none, Option.some.injEq, List.cons_append, List.nil_append, List.length_cons, List.length_nil, List.getD_cons_zero, List.getD_cons_succ, c1, z1]
    refine hold_leave (rs := [.cell 2 4]) okT rfl fok92 (.inr (.inl rfl)) (wtryD_ret _ _ _ (.inl ⟨_, rfl, ?_⟩))
    show lastW TT [.cell 2 4] R _ .returning _
    have hs1 := heapSet (v := .bool true) (o := 0) hc
    have hM := (Mod.refl [n] w1).set (p := ⟨n, 0, none⟩) (.inl (by simp)) (.bool true)
    generalize w1.setCell ⟨n, 0, none⟩ (.bool true) = w2 at hs1 hM ⊢
    have c2 : w2.cell? ⟨n, 0, none⟩ = some (.bool true) := by rw [cellOf hs1]; rfl
    simp (config := { maxSteps := 1000000 }) (disch := first | omega | (simp only [sizeAlloc, sizeDrew, sizeSet, sizePut] <;> omega) | fail) only [GS1, GS2, GS3, GS4, GS5, GS6, GS7, GS8, GS9, GS10, GS11, TT_eq, TTl, Nat.reduceAdd, Nat.reduceMul, Nat.reduceSub, Nat.reduceDiv, Nat.reduceMod, Nat.reducePow, Nat.reduceEqDiff, ↓reduceIte, reduceCtorEq, true_and, and_true, and_self, false_and, and_false, Int.reduceToNat, Int.reduceAdd, Int.reduceSub, Int.reduceMul, cond_true, cond_false, List.toList_toArray, Option.map_some, Option.map_none, Option.some.injEq, List.cons_append, List.nil_append, List.length_cons, List.length_nil, List.getD_cons_zero, List.getD_cons_succ, lastW_ret]
    show ∃ v, w2.cell? ⟨n, 0, none⟩ = some v ∧ R (.returned v) w2
    exact ⟨_, c2, hA _ _ hA1 hM⟩
  · refine .inr ⟨_, rfl, hold_ex okT (rs := [.cell 2 4]) rfl ?_⟩
    simp (config := { maxSteps := 1000000 }) (disch := first | omega | (simp only [sizeAlloc, sizeDrew, sizeSet, sizePut] <;> omega) | fail) only [GS1, GS2, GS3, GS4, GS5, GS6, GS7, GS8, GS9, GS10, GS11, TT_eq, TTl, Nat.reduceAdd, Nat.reduceMul, Nat.reduceSub, Nat.reduceDiv, Nat.reduceMod, Nat.reducePow, Nat.reduceEqDiff, ↓reduceIte, reduceCtorEq, true_and, and_true, and_self, false_and, and_false, Int.reduceToNat, Int.reduceAdd, Int.reduceSub, Int.reduceMul, cond_true, cond_false, List.toList_toArray, Option.map_some, Option.map_none, Option.some.injEq, List.cons_append, List.nil_append, List.length_cons, List.length_nil, List.getD_cons_zero, List.getD_cons_succ]
    refine hold_leave (rs := [.cell 2 4]) okT rfl fok92 (.inr (.inr ⟨_, rfl⟩)) (wtryD_pan n _ _ _ hc _ fun w2 hc2 hM => .inl ⟨_, rfl, ?_⟩)
    have c2 : w2.cell? ⟨n, 0, none⟩ = some (.bool false) := by rw [cellOf hc2]; rfl
    show lastW TT [.cell 2 4] R _ .returning w2
    simp (config := { maxSteps := 1000000 }) (disch := first | omega | (simp only [sizeAlloc, sizeDrew, sizeSet, sizePut] <;> omega) | fail) only [GS1, GS2, GS3, GS4, GS5, GS6, GS7, GS8, GS9, GS10, GS11, TT_eq, TTl, Nat.reduceAdd, Nat.reduceMul, Nat.reduceSub, Nat.reduceDiv, Nat.reduceMod, Nat.reducePow, Nat.reduceEqDiff, ↓reduceIte, reduceCtorEq, true_and, and_true, and_self, false_and, and_false, Int.reduceToNat, Int.reduceAdd, Int.reduceSub, Int.reduceMul, cond_true, cond_false, List.toList_toArray, Option.map_some, Option.map_none, Option.some.injEq, List.cons_append, List.nil_append, List.length_cons, List.length_nil, List.getD_cons_zero, List.getD_cons_succ, lastW_ret]
    show ∃ v, w2.cell? ⟨n, 0, none⟩ = some v ∧ R (.returned v) w2
    exact ⟨_, c2, hB _ _ hB1 hM⟩
end Go.Proofs.Ytpcilobbohokcaa
