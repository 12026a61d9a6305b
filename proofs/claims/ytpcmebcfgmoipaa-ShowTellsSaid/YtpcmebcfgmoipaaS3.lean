/-
  show.Parse (walk). show.datum (walk). The line of a term (plain). show.tell, Brief, Line (walks). How wide a text is; the chapter's examples (walks).
-/
import Derived.Test.YtpcmebcfgmoipaaS2
import Derived.Test.YtpcmebcfgmoipaaB4
set_option linter.unusedSimpArgs false
set_option linter.unusedVariables false
namespace Go.Proofs.Ytpcmebcfgmoipaa
open Go Go.Wk Go.RowKit
attribute [local irreducible] go Hold
open Go.Lib
/-- The term of a line. -/
def parseS (s : List UInt8) : List UInt8 × Int := match termF 16 s with
  | some (t, r) => if r = [] then (t, 0) else ([], 7)
  | none => ([], 7)
theorem parseD_ret (p q : Value) (w : World) (R : Ending → FrameMode → World → Prop) (hR : R (.returned (.tuple #[])) .returning w) :
    CallsR Try.prog 31 #[p, q] .returning w R := by
  refine callsDIn_of_wpSIn Try.func31 rfl (by trivial) fun c₀ cs hu => ?_
  apply wpSIn_seq
  apply wpSIn_region
  simp [wpOpsSIn, go_sem, recoverD, hu, Try.ntmps31, Exit.thenS]
  have e : c₀ = { c₀ with mode := .returning } := by cases c₀; simp only at hu; subst hu; rfl
  rw [e]
  refine wpS_go (fs := [p, q, .nilIface, undef, undef, .nilIface, undef, undef, undef, undef, undef, undef, undef, undef, undef, undef]) okT (rs := []) rfl ?_
  simp (config := { maxSteps := 1000000 }) (disch := first | omega | (simp only [sizeAlloc, sizeDrew, sizeSet, sizePut] <;> omega) | fail) only [GS1, GS2, GS3, GS4, GS5, GS6, GS7, GS8, GS9, GS10, GS11, TT_eq, TTl, Nat.reduceAdd, Nat.reduceMul, Nat.reduceSub, Nat.reduceDiv, Nat.reduceMod, Nat.reducePow, Nat.reduceEqDiff, ↓reduceIte, reduceCtorEq, true_and, and_true, and_self, false_and, and_false, Int.reduceToNat, Int.reduceAdd, Int.reduceSub, Int.reduceMul, cond_true, cond_false, List.toList_toArray, Option.map_some, Option.map_none, Option.some.injEq, List.cons_append, List.nil_append, List.length_cons, List.length_nil, List.getD_cons_zero, List.getD_cons_succ]
  unfold recEnd
  simp (config := { maxSteps := 1000000 }) (disch := first | omega | (simp only [sizeAlloc, sizeDrew, sizeSet, sizePut] <;> omega) | fail) only [GS1, GS2, GS3, GS4, GS5, GS6, GS7, GS8, GS9, GS10, GS11, TT_eq, TTl, Nat.reduceAdd, Nat.reduceMul, Nat.reduceSub, Nat.reduceDiv, Nat.reduceMod, Nat.reducePow, Nat.reduceEqDiff, ↓reduceIte, reduceCtorEq, true_and, and_true, and_self, false_and, and_false, Int.reduceToNat, Int.reduceAdd, Int.reduceSub, Int.reduceMul, cond_true, cond_false, List.toList_toArray, Option.map_some, Option.map_none, Option.some.injEq, List.cons_append, List.nil_append, List.length_cons, List.length_nil, List.getD_cons_zero, List.getD_cons_succ]
  exact hR
/-- What was thrown, once caught. -/
def noneD : List PanicEntry := [{ v := .iface 42 (.agg #[]), recovered := true }]
set_option maxHeartbeats 2000000 in
theorem parseD_pan (a b : Nat) (x y : Value) (ta tb : Nat) (w : World) (hab : a ≠ b) (hA : w.heap[a]? = some (.cells #[x] ta (0, 0))) (hB : w.heap[b]? = some (.cells #[y] tb (0, 0))) (R : Ending → FrameMode → World → Prop)
    (hR : ∀ w', w'.heap[a]? = some (.cells #[.string ⟨#[]⟩] ta (0, 0)) → w'.heap[b]? = some (.cells #[.int .i64 7] tb (0, 0)) → Mod [a, b] w w' → R (.returned (.tuple #[])) (.panicking noneD) w') :
    CallsR Try.prog 31 #[.pointer (some ⟨a, 0, none⟩), .pointer (some ⟨b, 0, none⟩)] (.panicking noneV) w R := by
  refine callsDIn_of_wpSIn Try.func31 rfl (by trivial) fun c₀ cs hu => ?_
  apply wpSIn_seq
  apply wpSIn_region
  unfold noneV at hu
  simp [wpOpsSIn, go_sem, recoverD, hu, Try.ntmps31, Exit.thenS]
  refine wpS_go (u := .panicking noneD) (fs := [.pointer (some ⟨a, 0, none⟩), .pointer (some ⟨b, 0, none⟩), .iface 42 (.agg #[]), undef, undef, .iface 42 (.agg #[]), undef, undef, undef, undef, undef, undef, undef, undef, undef, undef]) okT (rs := []) rfl ?_
  have hA1 : (w.alloc (.cells #[] 42)).heap[a]? = _ := heapAlloc hA
  have hB1 : (w.alloc (.cells #[] 42)).heap[b]? = _ := heapAlloc hB
  have hca : (w.alloc (.cells #[] 42)).cell? ⟨a, 0, none⟩ = some x := by rw [cellOf hA1]; rfl
  have hcb : (w.alloc (.cells #[] 42)).cell? ⟨b, 0, none⟩ = some y := by rw [cellOf hB1]; rfl
  have hfa := frozenOf (o := 0) hA1
  have hfb := frozenOf (o := 0) hB1
  simp (config := { maxSteps := 1000000 }) (disch := first | omega | (simp only [sizeAlloc, sizeDrew, sizeSet, sizePut] <;> omega) | fail) only [GS1, GS2, GS3, GS4, GS5, GS6, GS7, GS8, GS9, GS10, GS11, TT_eq, TTl, Nat.reduceAdd, Nat.reduceMul, Nat.reduceSub, Nat.reduceDiv, Nat.reduceMod, Nat.reducePow, Nat.reduceEqDiff, ↓reduceIte, reduceCtorEq, true_and, and_true, and_self, false_and, and_false, Int.reduceToNat, Int.reduceAdd, Int.reduceSub, Int.reduceMul, cond_true, cond_false, List.toList_toArray, Option.map_some, Option.map_none, Option.some.injEq, List.cons_append, List.nil_append, List.length_cons, List.length_nil, List.getD_cons_zero, List.getD_cons_succ, hca, hcb, hfa, hfb]
  unfold recEnd
  simp (config := { maxSteps := 1000000 }) (disch := first | omega | (simp only [sizeAlloc, sizeDrew, sizeSet, sizePut] <;> omega) | fail) only [GS1, GS2, GS3, GS4, GS5, GS6, GS7, GS8, GS9, GS10, GS11, TT_eq, TTl, Nat.reduceAdd, Nat.reduceMul, Nat.reduceSub, Nat.reduceDiv, Nat.reduceMod, Nat.reducePow, Nat.reduceEqDiff, ↓reduceIte, reduceCtorEq, true_and, and_true, and_self, false_and, and_false, Int.reduceToNat, Int.reduceAdd, Int.reduceSub, Int.reduceMul, cond_true, cond_false, List.toList_toArray, Option.map_some, Option.map_none, Option.some.injEq, List.cons_append, List.nil_append, List.length_cons, List.length_nil, List.getD_cons_zero, List.getD_cons_succ]
  exact hR _ (heapSetNe (heapSet hA1) hab) (heapSet (heapSetNe hB1 hab.symm)) ((((Mod.refl _ _).alloc _).set (p := ⟨a, 0, none⟩) (.inl (by simp)) _).set (p := ⟨b, 0, none⟩) (.inl (by simp)) _)
set_option maxRecDepth 20000 in
set_option maxHeartbeats 4000000 in
theorem sParse_cps (s : List UInt8) (hs : s.length ≤ 100000) (w : World) (R : Ending → World → Prop) (hR : ∀ w', Mod [] w w' → R (.returned (stV (parseS s))) w') :
    Calls Try.prog 9 #[.string ⟨s.toArray⟩] w R := by
  unfold parseS at hR
  refine calls_go 4000 okT Try.func9 rfl (rs := [.cell 2 9, .cell 3 24]) rfl Try.ntmps9 (args := [.string ⟨s.toArray⟩]) ?_
  simp (config := { maxSteps := 1000000 }) (disch := first | omega | (simp only [sizeAlloc, sizeDrew, sizeSet, sizePut] <;> omega) | fail) only [GS1, GS2, GS3, GS4, GS5, GS6, GS7, GS8, GS9, GS10, GS11, TT_eq, TTl, Nat.reduceAdd, Nat.reduceMul, Nat.reduceSub, Nat.reduceDiv, Nat.reduceMod, Nat.reducePow, Nat.reduceEqDiff, ↓reduceIte, reduceCtorEq, true_and, and_true, and_self, false_and, and_false, Int.reduceToNat, Int.reduceAdd, Int.reduceSub, Int.reduceMul, cond_true, cond_false, List.toList_toArray, Option.map_some, Option.map_none, Option.some.injEq, List.cons_append, List.nil_append, List.length_cons, List.length_nil, List.getD_cons_zero, List.getD_cons_succ]
  refine hold_defer rfl rfl (hold_ops okT (rs := [.cell 2 9, .cell 3 24]) rfl ?_)
  simp (config := { maxSteps := 1000000 }) (disch := first | omega | (simp only [sizeAlloc, sizeDrew, sizeSet, sizePut] <;> omega) | fail) only [GS1, GS2, GS3, GS4, GS5, GS6, GS7, GS8, GS9, GS10, GS11, TT_eq, TTl, Nat.reduceAdd, Nat.reduceMul, Nat.reduceSub, Nat.reduceDiv, Nat.reduceMod, Nat.reducePow, Nat.reduceEqDiff, ↓reduceIte, reduceCtorEq, true_and, and_true, and_self, false_and, and_false, Int.reduceToNat, Int.reduceAdd, Int.reduceSub, Int.reduceMul, cond_true, cond_false, List.toList_toArray, Option.map_some, Option.map_none, Option.some.injEq, List.cons_append, List.nil_append, List.length_cons, List.length_nil, List.getD_cons_zero, List.getD_cons_succ]
  have hA : (((w.alloc (Obj.cells #[Value.string ⟨#[]⟩] 9)).alloc (Obj.cells #[Value.int IntKind.i64 0] 24)).alloc (Obj.cells #[Value.string ⟨s.toArray⟩] 46)).heap[w.heap.size]? = some (.cells #[Value.string ⟨#[]⟩] 9 (0, 0)) := by (simp only [heapA, sizeAlloc]; repeat (first | rfl | rw [if_neg (by omega)] | rw [if_pos (by omega)]))
  have hB : (((w.alloc (Obj.cells #[Value.string ⟨#[]⟩] 9)).alloc (Obj.cells #[Value.int IntKind.i64 0] 24)).alloc (Obj.cells #[Value.string ⟨s.toArray⟩] 46)).heap[w.heap.size + 1]? = some (.cells #[Value.int IntKind.i64 0] 24 (0, 0)) := by (simp only [heapA, sizeAlloc]; repeat (first | rfl | rw [if_neg (by omega)] | rw [if_pos (by omega)]))
  have hC : Rdr (((w.alloc (Obj.cells #[Value.string ⟨#[]⟩] 9)).alloc (Obj.cells #[Value.int IntKind.i64 0] 24)).alloc (Obj.cells #[Value.string ⟨s.toArray⟩] 46)) (w.heap.size + 1 + 1) s := by unfold Rdr; (simp only [heapA, sizeAlloc]; repeat (first | rfl | rw [if_neg (by omega)] | rw [if_pos (by omega)]))
  have hM : Mod [] w (((w.alloc (Obj.cells #[Value.string ⟨#[]⟩] 9)).alloc (Obj.cells #[Value.int IntKind.i64 0] 24)).alloc (Obj.cells #[Value.string ⟨s.toArray⟩] 46)) := (((Mod.refl [] w).alloc _).alloc _).alloc _
  generalize ((w.alloc (Obj.cells #[Value.string ⟨#[]⟩] 9)).alloc (Obj.cells #[Value.int IntKind.i64 0] 24)).alloc (Obj.cells #[Value.string ⟨s.toArray⟩] 46) = W at *
  generalize ha : w.heap.size = a at *
  have hne : a ≠ a + 1 := by omega
  refine ⟨fok32, sTerm_all 16 1 (a + 1 + 1) s W _ (by omega) hs hC (fun t r' w1 ht hr1 hM1 => .inl ⟨_, rfl, hold_ops okT (rs := [.cell 2 9, .cell 3 24]) rfl ?_⟩) (fun ht w1 hM1 => .inr ⟨_, rfl, hold_ex okT (rs := [.cell 2 9, .cell 3 24]) rfl ?_⟩)⟩
  · rw [ht] at hR
    simp only at hR
    have hA1 := hM1.get hA (by simp <;> omega)
    have hB1 := hM1.get hB (by simp <;> omega)
    have hMM : Mod [] w w1 := hM.trans hM1 (by intro x hx; simp at hx; right; omega)
    have hca : w1.cell? ⟨a, 0, none⟩ = some (.string ⟨#[]⟩) := by rw [cellOf hA1]; rfl
    have hcb : w1.cell? ⟨a + 1, 0, none⟩ = some (.int .i64 0) := by rw [cellOf hB1]; rfl
    have hcc : w1.cell? ⟨a + 1 + 1, 0, none⟩ = some (.string ⟨r'.toArray⟩) := by rw [cellOf hr1]; rfl
    have hfa := frozenOf (o := 0) hA1
    have hfb := frozenOf (o := 0) hB1
    by_cases h : r' = []
    · rw [if_pos h] at hR
      have d1 : decide (r' = []) = true := decide_eq_true h
      simp (config := { maxSteps := 1000000 }) (disch := first | omega | (simp only [sizeAlloc, sizeDrew, sizeSet, sizePut] <;> omega) | fail) only [GS1, GS2, GS3, GS4, GS5, GS6, GS7, GS8, GS9, GS10, GS11, TT_eq, TTl, Nat.reduceAdd, Nat.reduceMul, Nat.reduceSub, Nat.reduceDiv, Nat.reduceMod, Nat.reducePow, Nat.reduceEqDiff, ↓reduceIte, reduceCtorEq, true_and, and_true, and_self, false_and, and_false, Int.reduceToNat, Int.reduceAdd, Int.reduceSub, Int.reduceMul, cond_true, cond_false, List.toList_toArray, Option.map_some, Option.map_none, Option.some.injEq, List.cons_append, List.nil_append, List.length_cons, List.length_nil, List.getD_cons_zero, List.getD_cons_succ, hca, hcb, hcc, hfa, hfb, d1]
      refine ⟨fok33, sMust_cps true _ _ (fun _ => .inl ⟨_, rfl, hold_ops okT (rs := [.cell 2 9, .cell 3 24]) rfl ?_⟩) (fun h => absurd h (by simp))⟩
      simp (config := { maxSteps := 1000000 }) (disch := first | omega | (simp only [sizeAlloc, sizeDrew, sizeSet, sizePut] <;> omega) | fail) only [GS1, GS2, GS3, GS4, GS5, GS6, GS7, GS8, GS9, GS10, GS11, TT_eq, TTl, Nat.reduceAdd, Nat.reduceMul, Nat.reduceSub, Nat.reduceDiv, Nat.reduceMod, Nat.reducePow, Nat.reduceEqDiff, ↓reduceIte, reduceCtorEq, true_and, and_true, and_self, false_and, and_false, Int.reduceToNat, Int.reduceAdd, Int.reduceSub, Int.reduceMul, cond_true, cond_false, List.toList_toArray, Option.map_some, Option.map_none, Option.some.injEq, List.cons_append, List.nil_append, List.length_cons, List.length_nil, List.getD_cons_zero, List.getD_cons_succ, hca, hcb, hcc, hfa, hfb, d1]
      refine hold_leave (rs := [.cell 2 9, .cell 3 24]) okT rfl fok31 (.inr (.inl rfl)) (parseD_ret _ _ _ _ (.inl ⟨_, rfl, ?_⟩))
      show lastW TT [.cell 2 9, .cell 3 24] R _ .returning _
      have hs1 := heapSet (v := .int .i64 0) (o := 0) (heapSetNe (j := 0) (u := .string ⟨t.toArray⟩) (heapSetNe (j := 0) (u := .string ⟨t.toArray⟩) hB1 hne.symm) hne.symm)
      have hs2 := heapSetNe (j := 0) (u := .int .i64 0) (heapSet (v := .string ⟨t.toArray⟩) (o := 0) (heapSet (v := .string ⟨t.toArray⟩) (o := 0) hA1)) hne
      have hMN := (((hMM.set (p := ⟨a, 0, none⟩) (.inr (by simp only; omega)) (.string ⟨t.toArray⟩)).set (p := ⟨a, 0, none⟩) (.inr (by simp only; omega)) (.string ⟨t.toArray⟩)).set (p := ⟨a + 1, 0, none⟩) (.inr (by simp only; omega)) (.int .i64 0))
      generalize ((w1.setCell ⟨a, 0, none⟩ (.string ⟨t.toArray⟩)).setCell ⟨a, 0, none⟩ (.string ⟨t.toArray⟩)).setCell ⟨a + 1, 0, none⟩ (.int .i64 0) = w2 at hs1 hs2 hMN ⊢
      have hc1 : w2.cell? ⟨a, 0, none⟩ = some (.string ⟨t.toArray⟩) := by rw [cellOf hs2]; rfl
      have hc2 : w2.cell? ⟨a + 1, 0, none⟩ = some (.int .i64 0) := by rw [cellOf hs1]; rfl
      simp (config := { maxSteps := 1000000 }) (disch := first | omega | (simp only [sizeAlloc, sizeDrew, sizeSet, sizePut] <;> omega) | fail) only [GS1, GS2, GS3, GS4, GS5, GS6, GS7, GS8, GS9, GS10, GS11, TT_eq, TTl, Nat.reduceAdd, Nat.reduceMul, Nat.reduceSub, Nat.reduceDiv, Nat.reduceMod, Nat.reducePow, Nat.reduceEqDiff, ↓reduceIte, reduceCtorEq, true_and, and_true, and_self, false_and, and_false, Int.reduceToNat, Int.reduceAdd, Int.reduceSub, Int.reduceMul, cond_true, cond_false, List.toList_toArray, Option.map_some, Option.map_none, Option.some.injEq, List.cons_append, List.nil_append, List.length_cons, List.length_nil, List.getD_cons_zero, List.getD_cons_succ, lastW_ret]
      show ∃ v, w2.cell? ⟨a, 0, none⟩ = some v ∧ ∃ u, w2.cell? ⟨a + 1, 0, none⟩ = some u ∧ R (.returned (.tuple #[v, u])) w2
      exact ⟨_, hc1, _, hc2, hR _ hMN⟩
    · rw [if_neg h] at hR
      have d1 : decide (r' = []) = false := decide_eq_false h
      simp (config := { maxSteps := 1000000 }) (disch := first | omega | (simp only [sizeAlloc, sizeDrew, sizeSet, sizePut] <;> omega) | fail) only [GS1, GS2, GS3, GS4, GS5, GS6, GS7, GS8, GS9, GS10, GS11, TT_eq, TTl, Nat.reduceAdd, Nat.reduceMul, Nat.reduceSub, Nat.reduceDiv, Nat.reduceMod, Nat.reducePow, Nat.reduceEqDiff, ↓reduceIte, reduceCtorEq, true_and, and_true, and_self, false_and, and_false, Int.reduceToNat, Int.reduceAdd, Int.reduceSub, Int.reduceMul, cond_true, cond_false, List.toList_toArray, Option.map_some, Option.map_none, Option.some.injEq, List.cons_append, List.nil_append, List.length_cons, List.length_nil, List.getD_cons_zero, List.getD_cons_succ, hca, hcb, hcc, hfa, hfb, d1]
      refine ⟨fok33, sMust_cps false _ _ (fun h => absurd h (by simp)) (fun _ => .inr ⟨_, rfl, hold_ex okT (rs := [.cell 2 9, .cell 3 24]) rfl ?_⟩)⟩
      simp (config := { maxSteps := 1000000 }) (disch := first | omega | (simp only [sizeAlloc, sizeDrew, sizeSet, sizePut] <;> omega) | fail) only [GS1, GS2, GS3, GS4, GS5, GS6, GS7, GS8, GS9, GS10, GS11, TT_eq, TTl, Nat.reduceAdd, Nat.reduceMul, Nat.reduceSub, Nat.reduceDiv, Nat.reduceMod, Nat.reducePow, Nat.reduceEqDiff, ↓reduceIte, reduceCtorEq, true_and, and_true, and_self, false_and, and_false, Int.reduceToNat, Int.reduceAdd, Int.reduceSub, Int.reduceMul, cond_true, cond_false, List.toList_toArray, Option.map_some, Option.map_none, Option.some.injEq, List.cons_append, List.nil_append, List.length_cons, List.length_nil, List.getD_cons_zero, List.getD_cons_succ]
      refine hold_leave (rs := [.cell 2 9, .cell 3 24]) okT rfl fok31 (.inr (.inr ⟨_, rfl⟩)) (parseD_pan a (a + 1) _ _ _ _ _ hne (heapSet hA1) (heapSetNe hB1 hne.symm) _ fun w2 ha2 hb2 hM2 => .inl ⟨_, rfl, ?_⟩)
      have hc1 : w2.cell? ⟨a, 0, none⟩ = some (.string ⟨#[]⟩) := by rw [cellOf ha2]; rfl
      have hc2 : w2.cell? ⟨a + 1, 0, none⟩ = some (.int .i64 7) := by rw [cellOf hb2]; rfl
      show lastW TT [.cell 2 9, .cell 3 24] R _ .returning w2
      simp (config := { maxSteps := 1000000 }) (disch := first | omega | (simp only [sizeAlloc, sizeDrew, sizeSet, sizePut] <;> omega) | fail) only [GS1, GS2, GS3, GS4, GS5, GS6, GS7, GS8, GS9, GS10, GS11, TT_eq, TTl, Nat.reduceAdd, Nat.reduceMul, Nat.reduceSub, Nat.reduceDiv, Nat.reduceMod, Nat.reducePow, Nat.reduceEqDiff, ↓reduceIte, reduceCtorEq, true_and, and_true, and_self, false_and, and_false, Int.reduceToNat, Int.reduceAdd, Int.reduceSub, Int.reduceMul, cond_true, cond_false, List.toList_toArray, Option.map_some, Option.map_none, Option.some.injEq, List.cons_append, List.nil_append, List.length_cons, List.length_nil, List.getD_cons_zero, List.getD_cons_succ, lastW_ret]
      show ∃ v, w2.cell? ⟨a, 0, none⟩ = some v ∧ ∃ u, w2.cell? ⟨a + 1, 0, none⟩ = some u ∧ R (.returned (.tuple #[v, u])) w2
      exact ⟨_, hc1, _, hc2, hR _ ((hMM.set (p := ⟨a, 0, none⟩) (.inr (by simp only; omega)) _).trans hM2 (by intro x hx; simp at hx; right; omega))⟩
  · rw [ht] at hR
    have hA1 := hM1.get hA (by simp <;> omega)
    have hB1 := hM1.get hB (by simp <;> omega)
    have hMM : Mod [] w w1 := hM.trans hM1 (by intro x hx; simp at hx; right; omega)
    simp (config := { maxSteps := 1000000 }) (disch := first | omega | (simp only [sizeAlloc, sizeDrew, sizeSet, sizePut] <;> omega) | fail) only [GS1, GS2, GS3, GS4, GS5, GS6, GS7, GS8, GS9, GS10, GS11, TT_eq, TTl, Nat.reduceAdd, Nat.reduceMul, Nat.reduceSub, Nat.reduceDiv, Nat.reduceMod, Nat.reducePow, Nat.reduceEqDiff, ↓reduceIte, reduceCtorEq, true_and, and_true, and_self, false_and, and_false, Int.reduceToNat, Int.reduceAdd, Int.reduceSub, Int.reduceMul, cond_true, cond_false, List.toList_toArray, Option.map_some, Option.map_none, Option.some.injEq, List.cons_append, List.nil_append, List.length_cons, List.length_nil, List.getD_cons_zero, List.getD_cons_succ]
    refine hold_leave (rs := [.cell 2 9, .cell 3 24]) okT rfl fok31 (.inr (.inr ⟨_, rfl⟩)) (parseD_pan a (a + 1) _ _ _ _ _ hne hA1 hB1 _ fun w2 ha2 hb2 hM2 => .inl ⟨_, rfl, ?_⟩)
    have hc1 : w2.cell? ⟨a, 0, none⟩ = some (.string ⟨#[]⟩) := by rw [cellOf ha2]; rfl
    have hc2 : w2.cell? ⟨a + 1, 0, none⟩ = some (.int .i64 7) := by rw [cellOf hb2]; rfl
    show lastW TT [.cell 2 9, .cell 3 24] R _ .returning w2
    simp (config := { maxSteps := 1000000 }) (disch := first | omega | (simp only [sizeAlloc, sizeDrew, sizeSet, sizePut] <;> omega) | fail) only [GS1, GS2, GS3, GS4, GS5, GS6, GS7, GS8, GS9, GS10, GS11, TT_eq, TTl, Nat.reduceAdd, Nat.reduceMul, Nat.reduceSub, Nat.reduceDiv, Nat.reduceMod, Nat.reducePow, Nat.reduceEqDiff, ↓reduceIte, reduceCtorEq, true_and, and_true, and_self, false_and, and_false, Int.reduceToNat, Int.reduceAdd, Int.reduceSub, Int.reduceMul, cond_true, cond_false, List.toList_toArray, Option.map_some, Option.map_none, Option.some.injEq, List.cons_append, List.nil_append, List.length_cons, List.length_nil, List.getD_cons_zero, List.getD_cons_succ, lastW_ret]
    show ∃ v, w2.cell? ⟨a, 0, none⟩ = some v ∧ ∃ u, w2.cell? ⟨a + 1, 0, none⟩ = some u ∧ R (.returned (.tuple #[v, u])) w2
    exact ⟨_, hc1, _, hc2, hR _ (hMM.trans hM2 (by intro x hx; simp at hx; right; omega))⟩
end Go.Proofs.Ytpcmebcfgmoipaa

set_option linter.unusedSimpArgs false
set_option linter.unusedVariables false
namespace Go.Proofs.Ytpcmebcfgmoipaa
open Go Go.Wk Go.RowKit
attribute [local irreducible] go Hold
open Go.Lib
def hx1 (b : UInt8) : UInt8 := HX.getD (b.toNat / 16) 0
def hx2 (b : UInt8) : UInt8 := HX.getD (b.toNat % 16) 0
def hexO (s : List UInt8) : List UInt8 := s.flatMap fun b => [hx1 b, hx2 b]
/-- The line of a datum. -/
def datumS (s : List UInt8) : List UInt8 := if plainS s = true then 34 :: (s ++ [34]) else 120 :: hexO s
theorem shr4 : ∀ v : Fin 256, (v.val : Int).fdiv (2 ^ capN .u8 4) = ((v.val / 16 : Nat) : Int) := by decide +kernel
theorem and15 : ∀ v : Fin 256, bits .and .u8 (v.val : Int) 15 = ((v.val % 16 : Nat) : Int) := by decide +kernel
theorem hexO_len (s : List UInt8) : (hexO s).length = 2 * s.length := by
  induction s with
  | nil => rfl
  | cons a r ih => simp only [hexO, List.flatMap_cons, List.length_append, List.length_cons, List.length_nil] at ih ⊢; omega
theorem hexO_snoc (s : List UInt8) (k : Nat) (h : k < s.length) : hexO (s.take (k + 1)) = hexO (s.take k) ++ [hx1 s[k], hx2 s[k]] := by
  rw [List.take_add_one, List.getElem?_eq_getElem h]
  unfold hexO
  rw [List.flatMap_append]
  rfl
theorem loadN_row {w : World} {b o : Nat} {xs : List Value} (h : ∀ j u, xs[j]? = some u → w.cell? ⟨b, o + j, none⟩ = some u) : ∀ (n i : Nat), i + n = xs.length → loadL w ⟨b, o, none⟩ i n = some (xs.drop i)
  | 0, i, hi => by rw [List.drop_of_length_le (by omega)]; rfl
  | n + 1, i, hi => by
    have hc := h i xs[i] (List.getElem?_eq_getElem (by omega))
    have ha : addA ⟨b, o, none⟩ i = ⟨b, o + i, none⟩ := by cases i <;> rfl
    rw [loadL, ha, hc, loadN_row h n (i + 1) (by omega), List.drop_eq_getElem_cons (show i < xs.length by omega)]
    rfl
theorem Rd.load {w : World} {v : Value} {n : Nat} {xs : List Value} (h : Rd w 1 v n xs) (hn : 0 < n) : ∃ b o cap, v = .slice (some ⟨b, o, none⟩) n cap ∧ loadL w ⟨b, o, none⟩ 0 n = some xs := by
  obtain ⟨b, o, cap, rfl, _, g⟩ := h.at (by omega) hn
  have hl := h.1
  exact ⟨b, o, cap, rfl, by rw [loadN_row g n 0 (by omega)]; rfl⟩
set_option maxRecDepth 20000 in
set_option maxHeartbeats 4000000 in
theorem sDatum_cps (s : List UInt8) (hs : s.length ≤ 100000) (w : World) (R : Ending → World → Prop) (hR : ∀ w', Mod [] w w' → R (.returned (.string ⟨(datumS s).toArray⟩)) w') :
    Calls Try.prog 78 #[.string ⟨s.toArray⟩] w R := by
  have hs' : s.length ≤ maxLen := by unfold maxLen; omega
  unfold datumS at hR
  refine calls_go 4000 okT Try.func78 rfl (rs := [.tmp 2]) rfl Try.ntmps78 (args := [.string ⟨s.toArray⟩]) ?_
  simp (config := { maxSteps := 1000000 }) (disch := first | omega | (simp only [sizeAlloc, sizeDrew, sizeSet, sizePut] <;> omega) | fail) only [GS1, GS2, GS3, GS4, GS5, GS6, GS7, GS8, GS9, GS10, GS11, TT_eq, TTl, Nat.reduceAdd, Nat.reduceMul, Nat.reduceSub, Nat.reduceDiv, Nat.reduceMod, Nat.reducePow, Nat.reduceEqDiff, ↓reduceIte, reduceCtorEq, true_and, and_true, and_self, false_and, and_false, Int.reduceToNat, Int.reduceAdd, Int.reduceSub, Int.reduceMul, cond_true, cond_false, List.toList_toArray, Option.map_some, Option.map_none, Option.some.injEq, List.cons_append, List.nil_append, List.length_cons, List.length_nil, List.getD_cons_zero, List.getD_cons_succ]
  refine ⟨fok20, sPlainS_cps s hs' _ _ fun w1 hM1 => .inl ⟨_, rfl, hold_ops okT (rs := [.tmp 2]) rfl ?_⟩⟩
  cases hpl : plainS s
  · rw [if_neg (by rw [hpl]; simp)] at hR
    simp (config := { maxSteps := 1000000 }) (disch := first | omega | (simp only [sizeAlloc, sizeDrew, sizeSet, sizePut] <;> omega) | fail) only [GS1, GS2, GS3, GS4, GS5, GS6, GS7, GS8, GS9, GS10, GS11, TT_eq, TTl, Nat.reduceAdd, Nat.reduceMul, Nat.reduceSub, Nat.reduceDiv, Nat.reduceMod, Nat.reducePow, Nat.reduceEqDiff, ↓reduceIte, reduceCtorEq, true_and, and_true, and_self, false_and, and_false, Int.reduceToNat, Int.reduceAdd, Int.reduceSub, Int.reduceMul, cond_true, cond_false, List.toList_toArray, Option.map_some, Option.map_none, Option.some.injEq, List.cons_append, List.nil_append, List.length_cons, List.length_nil, List.getD_cons_zero, List.getD_cons_succ]
    have hM2 := hM1.alloc (.cells #[.int .u8 120] 5)
    have hown : (w1.alloc (.cells #[.int .u8 120] 5)).ownsRow w.heap.size 5 1 (.slice (some ⟨w1.heap.size, 0, none⟩) 1 1) 1 ([.int .u8 120] ++ (hexO (s.take 0)).map u8C) := by
      refine ⟨rfl, .inr ⟨w1.heap.size, 1, _, rfl, hM1.size, heapNew, ?_⟩⟩
      simp [hexO]
      unfold maxLen; omega
    generalize (Value.slice (some ⟨w1.heap.size, 0, none⟩) 1 1) = lv at hown ⊢
    refine hold_loop okT (rs := [.tmp 2]) rfl [3, 13] [4, 14, 15, 16, 17, 18, 19, 20, 21, 22, 23, 24, 25, 26, 27, 28, 29] (fun vs w' => ∃ (k : Nat) (lv : Value), vs = [lv, .int .i64 k] ∧ k ≤ s.length ∧ w'.ownsRow w.heap.size 5 1 lv (1 + 2 * k) ([.int .u8 120] ++ (hexO (s.take k)).map u8C) ∧ Mod [] w w') (fun vs _ => match vs with | [_, .int _ i] => s.length - i.toNat | _ => 0) (by kernel_rfl) ⟨0, _, rfl, by omega, hown, hM2⟩ ?_
    clear hown hM2
    rintro vs w2 J ⟨k, lv, rfl, hk, hown, hM⟩
    have hcl := ownsRow_one hown
    obtain ⟨la, lc, rfl⟩ := (Rd.own hown).slice
    by_cases hlt : k < s.length
    · have y1 : s.getD k 0 = s[k] := by rw [List.getD_eq_getElem?_getD, List.getElem?_eq_getElem hlt]; rfl
      have q1 := shr4 ⟨s[k].toNat, s[k].toNat_lt⟩
      have q2 := and15 ⟨s[k].toNat, s[k].toNat_lt⟩
      have q3 := s[k].toNat_lt
      simp only at q1 q2
      simp (config := { maxSteps := 1000000 }) (disch := first | omega | (simp only [sizeAlloc, sizeDrew, sizeSet, sizePut] <;> omega) | fail) only [GS1, GS2, GS3, GS4, GS5, GS6, GS7, GS8, GS9, GS10, GS11, TT_eq, TTl, Nat.reduceAdd, Nat.reduceMul, Nat.reduceSub, Nat.reduceDiv, Nat.reduceMod, Nat.reducePow, Nat.reduceEqDiff, ↓reduceIte, reduceCtorEq, true_and, and_true, and_self, false_and, and_false, Int.reduceToNat, Int.reduceAdd, Int.reduceSub, Int.reduceMul, cond_true, cond_false, List.toList_toArray, Option.map_some, Option.map_none, Option.some.injEq, List.cons_append, List.nil_append, List.length_cons, List.length_nil, List.getD_cons_zero, List.getD_cons_succ]
      refine hold_draw okT (rs := [.tmp 2]) rfl [0, 0, 0, 6, 14, 30, 0, 0, 192, 448, 960, 2046, 4095, 8191] [0, 1, 2, 3, 4, 5, 6, 7, 8, 9, 10, 11, 12, 13] (by kernel_rfl) (by kernel_rfl) ?_
      have hown3 := ownsRow_mod hown (Mod.drewN 1 (Mod.refl [] w2)) (by simp)
      have hM3 := hM.drewN 1
      generalize w2.drewN 1 = w3 at *
      simp (config := { maxSteps := 1000000 }) (disch := first | omega | (simp only [sizeAlloc, sizeDrew, sizeSet, sizePut] <;> omega) | fail) only [GS1, GS2, GS3, GS4, GS5, GS6, GS7, GS8, GS9, GS10, GS11, TT_eq, TTl, Nat.reduceAdd, Nat.reduceMul, Nat.reduceSub, Nat.reduceDiv, Nat.reduceMod, Nat.reducePow, Nat.reduceEqDiff, ↓reduceIte, reduceCtorEq, true_and, and_true, and_self, false_and, and_false, Int.reduceToNat, Int.reduceAdd, Int.reduceSub, Int.reduceMul, cond_true, cond_false, List.toList_toArray, Option.map_some, Option.map_none, Option.some.injEq, List.cons_append, List.nil_append, List.length_cons, List.length_nil, List.getD_cons_zero, List.getD_cons_succ, y1, q1, q2]
      refine hold_dappendN okT rfl rfl rfl rfl (by decide) w.heap.size hown3 rfl rfl (news := [u8C (hx1 s[k]), u8C (hx2 s[k])]) rfl (by decide) (by simp [Value.oneCell', u8C]) (by simp only; omega) (by unfold maxLen; omega) hM3.size fun v' w4 hown4 hM4 _ => ⟨?_, hold_dops okT (rs := [.tmp 2]) rfl ?_⟩
      · simp (config := { maxSteps := 1000000 }) only [GS1, GS2, GS3, GS4, GS5, GS6, GS7, GS8, GS9, GS10, GS11, TT_eq, TTl, Nat.reduceAdd, Nat.reduceMul, Nat.reduceSub, Nat.reduceDiv, Nat.reduceMod, Nat.reducePow, Nat.reduceEqDiff, ↓reduceIte, reduceCtorEq, true_and, and_true, and_self, false_and, and_false, Int.reduceToNat, Int.reduceAdd, Int.reduceSub, Int.reduceMul, cond_true, cond_false, List.toList_toArray, Option.map_some, Option.map_none, Option.some.injEq, List.cons_append, List.nil_append, List.length_cons, List.length_nil, List.getD_cons_zero, List.getD_cons_succ]
      have hob : ∀ y ∈ (Value.slice la (1 + 2 * k) lc).ownBlock.toList, w.heap.size ≤ y := fun y hy => (hown3.lt y (by simpa using hy)).1
      have hM5 : Mod [] w w4 := hM3.trans hM4 (fun y hy => .inr (hob y hy))
      have e9 : [Value.int .u8 120] ++ (hexO (s.take (k + 1))).map u8C = [Value.int .u8 120] ++ List.map u8C (hexO (s.take k)) ++ [u8C (hx1 s[k]), u8C (hx2 s[k])] := by
        rw [hexO_snoc s k hlt, List.map_append, List.append_assoc]; rfl
      rw [← e9] at hown4
      simp (config := { maxSteps := 1000000 }) (disch := first | omega | (simp only [sizeAlloc, sizeDrew, sizeSet, sizePut] <;> omega) | fail) only [GS1, GS2, GS3, GS4, GS5, GS6, GS7, GS8, GS9, GS10, GS11, TT_eq, TTl, Nat.reduceAdd, Nat.reduceMul, Nat.reduceSub, Nat.reduceDiv, Nat.reduceMod, Nat.reducePow, Nat.reduceEqDiff, ↓reduceIte, reduceCtorEq, true_and, and_true, and_self, false_and, and_false, Int.reduceToNat, Int.reduceAdd, Int.reduceSub, Int.reduceMul, cond_true, cond_false, List.toList_toArray, Option.map_some, Option.map_none, Option.some.injEq, List.cons_append, List.nil_append, List.length_cons, List.length_nil, List.getD_cons_zero, List.getD_cons_succ]
      exact ⟨⟨k + 1, _, rfl, by omega, hown4, hM5⟩, by omega⟩
    · have e : k = s.length := by omega
      subst e
      rw [List.take_length] at hown
      obtain ⟨b, o, cap, e, hld⟩ := Rd.load (Rd.own hown) (by omega)
      rw [Value.slice.injEq] at e
      obtain ⟨rfl, -, -⟩ := e
      have hby : bytesL ((hexO s).map u8C) = some (hexO s) := bytesL_map (hexO s)
      simp (config := { maxSteps := 1000000 }) (disch := first | omega | (simp only [sizeAlloc, sizeDrew, sizeSet, sizePut] <;> omega) | fail) only [GS1, GS2, GS3, GS4, GS5, GS6, GS7, GS8, GS9, GS10, GS11, TT_eq, TTl, Nat.reduceAdd, Nat.reduceMul, Nat.reduceSub, Nat.reduceDiv, Nat.reduceMod, Nat.reducePow, Nat.reduceEqDiff, ↓reduceIte, reduceCtorEq, true_and, and_true, and_self, false_and, and_false, Int.reduceToNat, Int.reduceAdd, Int.reduceSub, Int.reduceMul, cond_true, cond_false, List.toList_toArray, Option.map_some, Option.map_none, Option.some.injEq, List.cons_append, List.nil_append, List.length_cons, List.length_nil, List.getD_cons_zero, List.getD_cons_succ, hld, hby, bytesC]
      exact hR _ hM
  · rw [if_pos hpl] at hR
    simp (config := { maxSteps := 1000000 }) (disch := first | omega | (simp only [sizeAlloc, sizeDrew, sizeSet, sizePut] <;> omega) | fail) only [GS1, GS2, GS3, GS4, GS5, GS6, GS7, GS8, GS9, GS10, GS11, TT_eq, TTl, Nat.reduceAdd, Nat.reduceMul, Nat.reduceSub, Nat.reduceDiv, Nat.reduceMod, Nat.reducePow, Nat.reduceEqDiff, ↓reduceIte, reduceCtorEq, true_and, and_true, and_self, false_and, and_false, Int.reduceToNat, Int.reduceAdd, Int.reduceSub, Int.reduceMul, cond_true, cond_false, List.toList_toArray, Option.map_some, Option.map_none, Option.some.injEq, List.cons_append, List.nil_append, List.length_cons, List.length_nil, List.getD_cons_zero, List.getD_cons_succ]
    exact hR _ hM1
end Go.Proofs.Ytpcmebcfgmoipaa

set_option linter.unusedSimpArgs false
set_option linter.unusedVariables false
namespace Go.Proofs.Ytpcmebcfgmoipaa
open Go Go.Wk Go.RowKit
attribute [local irreducible] go Hold
open Go.Lib
/-- Things with ", " between them. -/
def comS (g : List UInt8 → List UInt8) : List (List UInt8) → List UInt8
  | [] => []
  | p :: l => g p ++ l.flatMap fun q => 44 :: 32 :: g q
def tellS : Nat → List UInt8 → Int → List UInt8
  | 0, _, _ => []
  | f + 1, t, d =>
    if d < 1 then [46, 46] else if kindS t = 1 then datumS (textS t).1 else if kindS t = 2 then 36 :: (textS t).1
    else (if kindS t = 3 then [91] else t.take 1 ++ [40]) ++ comS (fun p => tellS f p (d - 1)) (partsS t) ++ (if kindS t = 3 then [93] else [41])
theorem com_take (g : List UInt8 → List UInt8) (l : List (List UInt8)) (k : Nat) (h : k < l.length) : comS g (l.take (k + 1)) = comS g (l.take k) ++ (if k = 0 then g l[k] else 44 :: 32 :: g l[k]) := by
  cases l with
  | nil => simp at h
  | cons p l =>
    cases k with
    | zero => simp [comS]
    | succ k =>
      have h' : k < l.length := by simpa using h
      rw [List.take_succ_cons, List.take_succ_cons, comS, comS, List.take_add_one, List.getElem?_eq_getElem h', List.flatMap_append, List.append_assoc, if_neg (by omega)]
      simp
/-- A term of less than so many layers. -/
def HtS (f : Nat) (t : List UInt8) : Prop := ∃ h k, Tr t h k ∧ hgtF k < f
theorem ht_of {t : List UInt8} (h : checkS t = 0) : HtS 16 t := by
  obtain ⟨hd, k, tr⟩ := tr_of h
  exact ⟨hd, k, tr, by have := tr.2.2.2.1; omega⟩
theorem HtS.check {f : Nat} {t : List UInt8} (h : HtS f t) : checkS t = 0 := by obtain ⟨_, _, tr, _⟩ := h; exact tr.ok
theorem roots_ht : ∀ (K : Fr) (f : Nat), okF K → hgtF K ≤ f → hgtF K ≤ 15 → (encF K).length ≤ 16384 → ∀ p ∈ rootsF K, HtS f p
  | .nil, f, _, _, _, _, p, hp => by simp [rootsF] at hp
  | .cons h k r, f, hok, hf, h15, hl, p, hp => by
    obtain ⟨h1, h2, h3⟩ := hok
    simp only [hgtF] at hf h15
    simp only [encF, List.length_append] at hl
    rw [rootsF, List.mem_cons] at hp
    rcases hp with rfl | hp
    · exact ⟨h, k, ⟨rfl, h1, h2, by omega, by rw [List.length_append]; omega⟩, by omega⟩
    · exact roots_ht r f h3 (by omega) (by omega) (by omega) p hp
theorem HtS.parts {f : Nat} {t : List UInt8} (h : HtS (f + 1) t) : ∀ p ∈ partsS t, HtS f p := by
  obtain ⟨hd, k, tr, hh⟩ := h
  rw [tr.parts]
  obtain ⟨e, h1, h2, h3, h4⟩ := tr
  refine roots_ht k f h2 (by omega) (by omega) ?_
  rw [e, List.length_append] at h4; omega
theorem com_len (g : List UInt8 → List UInt8) (l : List (List UInt8)) (h : ∀ p ∈ l, (g p).length + 2 ≤ 5 * p.length) : (comS g l).length ≤ 5 * l.flatten.length := by
  cases l with
  | nil => simp [comS]
  | cons p l =>
    have key : ∀ l : List (List UInt8), (∀ p ∈ l, (g p).length + 2 ≤ 5 * p.length) → (l.flatMap fun q => 44 :: 32 :: g q).length ≤ 5 * l.flatten.length := by
      intro l
      induction l with
      | nil => simp
      | cons q l ih =>
        intro h
        have h1 := h q (by simp)
        have h2 := ih (fun p hp => h p (by simp [hp]))
        simp only [List.flatMap_cons, List.length_append, List.length_cons, List.flatten_cons] at h2 ⊢
        omega
    have h1 := h p (by simp)
    have h2 := key l (fun q hq => h q (by simp [hq]))
    rw [comS, List.length_append, List.flatten_cons, List.length_append]
    omega
theorem mem_flat_len {α : Type} {p : List α} : ∀ {l : List (List α)}, p ∈ l → p.length ≤ l.flatten.length
  | [], h => by simp at h
  | q :: l, h => by
    rw [List.flatten_cons, List.length_append]
    rcases List.mem_cons.1 h with rfl | h
    · omega
    · have := mem_flat_len h; omega
theorem take_flat_len {α : Type} (l : List (List α)) (k : Nat) : (l.take k).flatten.length ≤ l.flatten.length := by
  have h : (l.take k).flatten ++ (l.drop k).flatten = l.flatten := by rw [← List.flatten_append, List.take_append_drop]
  rw [← h, List.length_append]; omega
theorem parts_flat_len {t : List UInt8} (h : checkS t = 0) : (partsS t).flatten.length + 1 ≤ t.length := by
  obtain ⟨hd, k, tr⟩ := tr_of h
  rw [tr.parts, roots_flat, tr.1, List.length_append]
  have := tr.2.1.pos
  omega
theorem datumS_len (s : List UInt8) : (datumS s).length ≤ 2 * s.length + 2 := by
  unfold datumS
  split
  · simp; omega
  · rw [List.length_cons, hexO_len]; omega
theorem dataS_is {s t : List UInt8} (h : dataS s = (t, 0)) : t = 100 :: (numL s.length ++ s) ∧ s.length ≤ 1024 := by
  unfold dataS at h
  split at h
  · simp at h
  · simp only [Prod.mk.injEq, and_true] at h; exact ⟨h.symm, by omega⟩
theorem atomS_is {s t : List UInt8} (h : atomS s = (t, 0)) : t = 97 :: (numL s.length ++ s) ∧ s.length ≤ 32 ∧ nameS s = true := by
  unfold atomS at h
  split at h
  · simp at h
  · split at h
    · simp only [Prod.mk.injEq, and_true] at h; exact ⟨h.symm, by omega, by assumption⟩
    · simp at h
theorem tellS_len : ∀ (f : Nat) (t : List UInt8) (d : Int), HtS f t → (tellS f t d).length + 2 ≤ 5 * t.length
  | 0, t, d, h => by obtain ⟨_, _, _, h⟩ := h; omega
  | f + 1, t, d, h => by
    have hp := com_len (fun p => tellS f p (d - 1)) (partsS t) (fun p hp => tellS_len f p (d - 1) (h.parts p hp))
    have ho := opens_plain h.check
    obtain ⟨hd, k, tr, hh⟩ := h
    have hpos := tr.pos
    have hfl : (partsS t).flatten.length + 1 ≤ t.length := by
      rw [tr.parts, roots_flat, tr.1, List.length_append]
      have := tr.2.1.pos
      omega
    unfold tellS
    split
    · simp; omega
    · rcases ho with ⟨hk, -, s, e1, e2⟩ | ⟨hk, -, s, e1, e2⟩ | h3
      · rw [if_pos hk, e1]
        have := datumS_len s
        have h2 := dataS_is e2
        rw [h2.1]
        simp only [List.length_cons, List.length_append]
        omega
      · rw [if_neg (by omega), if_pos hk, e1]
        have h2 := atomS_is e2
        rw [h2.1]
        simp only [List.length_cons, List.length_append]
        omega
      · have hk : kindS t ≠ 1 ∧ kindS t ≠ 2 := by omega
        rw [if_neg hk.1, if_neg hk.2]
        by_cases h3 : kindS t = 3
        · rw [if_pos h3, if_pos h3]
          simp only [List.length_append, List.length_cons, List.length_nil]
          omega
        · rw [if_neg h3, if_neg h3]
          simp only [List.length_append, List.length_cons, List.length_nil, List.length_take]
          omega
end Go.Proofs.Ytpcmebcfgmoipaa

set_option linter.unusedSimpArgs false
set_option linter.unusedVariables false
namespace Go.Proofs.Ytpcmebcfgmoipaa
open Go Go.Wk Go.RowKit
attribute [local irreducible] go Hold
open Go.Lib
theorem ownsRow_bm {b base n : Nat} {w w' : World} {v : Value} {xs : List Value} (h : w.ownsRow base 9 1 v n xs) (hm : BM b w w') : w'.ownsRow base 9 1 v n xs := by
  obtain ⟨Z, hM, hZ⟩ := hm
  refine ownsRow_mod' h hM fun g hg hx => ?_
  rcases (hZ g hx).2 with ⟨cs, t, fr, e, ht⟩ | hlt
  · exact own_ne h e (by rcases ht with rfl | rfl <;> decide) g hg rfl
  · have := h.lt g hg; omega
def briefS (t : List UInt8) (d : Int) : List UInt8 × Int := if checkS t = 0 then (tellS 16 t d, 0) else ([], 2)
theorem tellS_ne {f : Nat} {t : List UInt8} {d : Int} (h : HtS f t) : tellS f t d ≠ [] := by
  cases f with
  | zero => obtain ⟨_, _, _, h⟩ := h; omega
  | succ f =>
    unfold tellS datumS
    split
    · simp
    · split
      · split <;> simp
      · split
        · simp
        · split <;> simp
set_option maxRecDepth 20000 in
set_option maxHeartbeats 8000000 in
theorem sTell_cps : ∀ (f : Nat) (t : List UInt8) (d : Int) (b : Nat) (cur : List UInt8) (w : World) (R : Ending → World → Prop), HtS f t → -9223372036854775808 ≤ d → d ≤ 9223372036854775807 → Bd b cur w → cur.length / 100000 + f ≤ 1000000 →
    (∀ w', Bd b (cur ++ tellS f t d) w' → BM b w w' → R (.returned (.tuple #[])) w') → Calls Try.prog 36 #[.pointer (some ⟨b, 0, none⟩), .string ⟨t.toArray⟩, .int .i64 d] w R := by
  intro f
  induction f with
  | zero => intro t d b cur w R h; obtain ⟨_, _, _, h⟩ := h; omega
  | succ f ih =>
    intro t d b cur w R hht hd1 hd2 hB hlen hR
    have hck := hht.check
    have htl := (check0 hck).2.2.1
    have htp := (check0 hck).2.2.2
    have htm : t.length ≤ maxLen := by unfold maxLen; omega
    have hlen2 := tellS_len (f + 1) t d hht
    have ho := opens_plain hck
    unfold tellS at hR hlen2
    refine calls_go 4000 okT Try.func36 rfl (rs := []) rfl Try.ntmps36 (args := [.pointer (some ⟨b, 0, none⟩), .string ⟨t.toArray⟩, .int .i64 d]) ?_
    by_cases hd : d < 1
    · rw [if_pos hd] at hR
      simp (config := { maxSteps := 1000000 }) (disch := first | omega | (simp only [sizeAlloc, sizeDrew, sizeSet, sizePut] <;> omega) | fail) only [GS1, GS2, GS3, GS4, GS5, GS6, GS7, GS8, GS9, GS10, GS11, TT_eq, TTl, Nat.reduceAdd, Nat.reduceMul, Nat.reduceSub, Nat.reduceDiv, Nat.reduceMod, Nat.reducePow, Nat.reduceEqDiff, ↓reduceIte, reduceCtorEq, true_and, and_true, and_self, false_and, and_false, Int.reduceToNat, Int.reduceAdd, Int.reduceSub, Int.reduceMul, cond_true, cond_false, List.toList_toArray, Option.map_some, Option.map_none, Option.some.injEq, List.cons_append, List.nil_append, List.length_cons, List.length_nil, List.getD_cons_zero, List.getD_cons_succ]
      refine ⟨fok77, bdWrite_cps b cur [46, 46] _ hB (by simp; omega) _ fun w1 hB1 hM1 => .inl ⟨_, rfl, hold_ops okT (rs := []) rfl ?_⟩⟩
      simp (config := { maxSteps := 1000000 }) (disch := first | omega | (simp only [sizeAlloc, sizeDrew, sizeSet, sizePut] <;> omega) | fail) only [GS1, GS2, GS3, GS4, GS5, GS6, GS7, GS8, GS9, GS10, GS11, TT_eq, TTl, Nat.reduceAdd, Nat.reduceMul, Nat.reduceSub, Nat.reduceDiv, Nat.reduceMod, Nat.reducePow, Nat.reduceEqDiff, ↓reduceIte, reduceCtorEq, true_and, and_true, and_self, false_and, and_false, Int.reduceToNat, Int.reduceAdd, Int.reduceSub, Int.reduceMul, cond_true, cond_false, List.toList_toArray, Option.map_some, Option.map_none, Option.some.injEq, List.cons_append, List.nil_append, List.length_cons, List.length_nil, List.getD_cons_zero, List.getD_cons_succ]
      exact hR _ hB1 hM1
    · rw [if_neg hd] at hR hlen2
      simp (config := { maxSteps := 1000000 }) (disch := first | omega | (simp only [sizeAlloc, sizeDrew, sizeSet, sizePut] <;> omega) | fail) only [GS1, GS2, GS3, GS4, GS5, GS6, GS7, GS8, GS9, GS10, GS11, TT_eq, TTl, Nat.reduceAdd, Nat.reduceMul, Nat.reduceSub, Nat.reduceDiv, Nat.reduceMod, Nat.reducePow, Nat.reduceEqDiff, ↓reduceIte, reduceCtorEq, true_and, and_true, and_self, false_and, and_false, Int.reduceToNat, Int.reduceAdd, Int.reduceSub, Int.reduceMul, cond_true, cond_false, List.toList_toArray, Option.map_some, Option.map_none, Option.some.injEq, List.cons_append, List.nil_append, List.length_cons, List.length_nil, List.getD_cons_zero, List.getD_cons_succ]
      refine ⟨fok26, tText_cps t htm _ _ fun w1 hM1 => .inl ⟨_, rfl, hold_ops okT (rs := []) rfl ?_⟩⟩
      simp (config := { maxSteps := 1000000 }) (disch := first | omega | (simp only [sizeAlloc, sizeDrew, sizeSet, sizePut] <;> omega) | fail) only [GS1, GS2, GS3, GS4, GS5, GS6, GS7, GS8, GS9, GS10, GS11, TT_eq, TTl, Nat.reduceAdd, Nat.reduceMul, Nat.reduceSub, Nat.reduceDiv, Nat.reduceMod, Nat.reducePow, Nat.reduceEqDiff, ↓reduceIte, reduceCtorEq, true_and, and_true, and_self, false_and, and_false, Int.reduceToNat, Int.reduceAdd, Int.reduceSub, Int.reduceMul, cond_true, cond_false, List.toList_toArray, Option.map_some, Option.map_none, Option.some.injEq, List.cons_append, List.nil_append, List.length_cons, List.length_nil, List.getD_cons_zero, List.getD_cons_succ]
      refine ⟨fok25, tKind_cps t htm _ _ fun w2 hM2 => .inl ⟨_, rfl, hold_ops okT (rs := []) rfl ?_⟩⟩
      have hM02 : Mod [] w w2 := hM1.trans hM2 (by simp)
      have hB2 := hB.mod hM02 (by simp)
      have hBM2 : BM b w w2 := ⟨[], hM02, by simp⟩
      rcases ho with ⟨hk, -, s, e1, e2⟩ | ⟨hk, -, s, e1, e2⟩ | ho
      · have h2 := dataS_is e2
        have h3 := datumS_len s
        rw [if_pos hk, e1] at hR
        rw [hk, e1]
        simp (config := { maxSteps := 1000000 }) (disch := first | omega | (simp only [sizeAlloc, sizeDrew, sizeSet, sizePut] <;> omega) | fail) only [GS1, GS2, GS3, GS4, GS5, GS6, GS7, GS8, GS9, GS10, GS11, TT_eq, TTl, Nat.reduceAdd, Nat.reduceMul, Nat.reduceSub, Nat.reduceDiv, Nat.reduceMod, Nat.reducePow, Nat.reduceEqDiff, ↓reduceIte, reduceCtorEq, true_and, and_true, and_self, false_and, and_false, Int.reduceToNat, Int.reduceAdd, Int.reduceSub, Int.reduceMul, cond_true, cond_false, List.toList_toArray, Option.map_some, Option.map_none, Option.some.injEq, List.cons_append, List.nil_append, List.length_cons, List.length_nil, List.getD_cons_zero, List.getD_cons_succ]
        refine ⟨fok78, sDatum_cps s (by omega) _ _ fun w3 hM3 => .inl ⟨_, rfl, hold_ops okT (rs := []) rfl ?_⟩⟩
        have hB3 := hB2.mod hM3 (by simp)
        
        simp (config := { maxSteps := 1000000 }) (disch := first | omega | (simp only [sizeAlloc, sizeDrew, sizeSet, sizePut] <;> omega) | fail) only [GS1, GS2, GS3, GS4, GS5, GS6, GS7, GS8, GS9, GS10, GS11, TT_eq, TTl, Nat.reduceAdd, Nat.reduceMul, Nat.reduceSub, Nat.reduceDiv, Nat.reduceMod, Nat.reducePow, Nat.reduceEqDiff, ↓reduceIte, reduceCtorEq, true_and, and_true, and_self, false_and, and_false, Int.reduceToNat, Int.reduceAdd, Int.reduceSub, Int.reduceMul, cond_true, cond_false, List.toList_toArray, Option.map_some, Option.map_none, Option.some.injEq, List.cons_append, List.nil_append, List.length_cons, List.length_nil, List.getD_cons_zero, List.getD_cons_succ]
        refine ⟨fok77, bdWrite_cps b _ (datumS s) _ hB3 (by omega) _ fun w4 hB4 hM4 => .inl ⟨_, rfl, hold_ops okT (rs := []) rfl ?_⟩⟩
        simp (config := { maxSteps := 1000000 }) (disch := first | omega | (simp only [sizeAlloc, sizeDrew, sizeSet, sizePut] <;> omega) | fail) only [GS1, GS2, GS3, GS4, GS5, GS6, GS7, GS8, GS9, GS10, GS11, TT_eq, TTl, Nat.reduceAdd, Nat.reduceMul, Nat.reduceSub, Nat.reduceDiv, Nat.reduceMod, Nat.reducePow, Nat.reduceEqDiff, ↓reduceIte, reduceCtorEq, true_and, and_true, and_self, false_and, and_false, Int.reduceToNat, Int.reduceAdd, Int.reduceSub, Int.reduceMul, cond_true, cond_false, List.toList_toArray, Option.map_some, Option.map_none, Option.some.injEq, List.cons_append, List.nil_append, List.length_cons, List.length_nil, List.getD_cons_zero, List.getD_cons_succ]
        exact hR _ hB4 ((hBM2.trans ⟨[], hM3, by simp⟩).trans hM4)
      · have h2 := atomS_is e2
        rw [if_neg (by omega), if_pos hk, e1] at hR
        rw [hk, e1]
        simp (config := { maxSteps := 1000000 }) (disch := first | omega | (simp only [sizeAlloc, sizeDrew, sizeSet, sizePut] <;> omega) | fail) only [GS1, GS2, GS3, GS4, GS5, GS6, GS7, GS8, GS9, GS10, GS11, TT_eq, TTl, Nat.reduceAdd, Nat.reduceMul, Nat.reduceSub, Nat.reduceDiv, Nat.reduceMod, Nat.reducePow, Nat.reduceEqDiff, ↓reduceIte, reduceCtorEq, true_and, and_true, and_self, false_and, and_false, Int.reduceToNat, Int.reduceAdd, Int.reduceSub, Int.reduceMul, cond_true, cond_false, List.toList_toArray, Option.map_some, Option.map_none, Option.some.injEq, List.cons_append, List.nil_append, List.length_cons, List.length_nil, List.getD_cons_zero, List.getD_cons_succ]
        refine ⟨fok77, bdWrite_cps b _ (36 :: s) _ hB2 (by simp only [List.length_cons]; omega) _ fun w4 hB4 hM4 => .inl ⟨_, rfl, hold_ops okT (rs := []) rfl ?_⟩⟩
        simp (config := { maxSteps := 1000000 }) (disch := first | omega | (simp only [sizeAlloc, sizeDrew, sizeSet, sizePut] <;> omega) | fail) only [GS1, GS2, GS3, GS4, GS5, GS6, GS7, GS8, GS9, GS10, GS11, TT_eq, TTl, Nat.reduceAdd, Nat.reduceMul, Nat.reduceSub, Nat.reduceDiv, Nat.reduceMod, Nat.reducePow, Nat.reduceEqDiff, ↓reduceIte, reduceCtorEq, true_and, and_true, and_self, false_and, and_false, Int.reduceToNat, Int.reduceAdd, Int.reduceSub, Int.reduceMul, cond_true, cond_false, List.toList_toArray, Option.map_some, Option.map_none, Option.some.injEq, List.cons_append, List.nil_append, List.length_cons, List.length_nil, List.getD_cons_zero, List.getD_cons_succ]
        exact hR _ hB4 (hBM2.trans hM4)
      · have hk1 : kindS t ≠ 1 := by omega
        have hk2 : kindS t ≠ 2 := by omega
        rw [if_neg hk1, if_neg hk2] at hR hlen2
        have hfl := parts_flat_len hck
        have plen : ∀ p ∈ partsS t, 1 ≤ p.length ∧ p.length + 1 ≤ t.length := fun p hp => by
          have h1 := (check0 (hht.parts p hp).check).2.2.2
          have h3 := mem_flat_len hp
          omega
        obtain ⟨g, hg⟩ : ∃ g, g = fun p => tellS f p (d - 1) := ⟨_, rfl⟩
        have hgp : ∀ p, g p = tellS f p (d - 1) := fun p => by rw [hg]
        rw [← hg] at hR hlen2
        have clen : ∀ k, k ≤ (partsS t).length → (comS g ((partsS t).take k)).length + 5 ≤ 5 * t.length := fun k hk => by
          have h1 := com_len g ((partsS t).take k) (fun p hp => by rw [hgp]; exact tellS_len f p (d - 1) (hht.parts p (List.mem_of_mem_take hp)))
          have h2 := take_flat_len (partsS t) k
          omega
        clear hg hlen2
        have hpn := partsS_len t
        have ho2 : kindS t = 3 ∨ kindS t ≠ 3 := by omega
        rcases ho2 with hk3 | hk3
        · rw [if_pos hk3, if_pos hk3] at hR
          rw [hk3]
          simp (config := { maxSteps := 1000000 }) (disch := first | omega | (simp only [sizeAlloc, sizeDrew, sizeSet, sizePut] <;> omega) | fail) only [GS1, GS2, GS3, GS4, GS5, GS6, GS7, GS8, GS9, GS10, GS11, TT_eq, TTl, Nat.reduceAdd, Nat.reduceMul, Nat.reduceSub, Nat.reduceDiv, Nat.reduceMod, Nat.reducePow, Nat.reduceEqDiff, ↓reduceIte, reduceCtorEq, true_and, and_true, and_self, false_and, and_false, Int.reduceToNat, Int.reduceAdd, Int.reduceSub, Int.reduceMul, cond_true, cond_false, List.toList_toArray, Option.map_some, Option.map_none, Option.some.injEq, List.cons_append, List.nil_append, List.length_cons, List.length_nil, List.getD_cons_zero, List.getD_cons_succ]
          have hB3 : Bd b cur w2 := hB2
          have hM3 : BM b w w2 := hBM2
          refine ⟨fok77, bdWrite_cps b _ [91] _ hB3 (by simp only [List.length_append, List.length_take, List.length_cons, List.length_nil]; omega) _ fun w4 hB4 hM4 => .inl ⟨_, rfl, hold_ops okT (rs := []) rfl ?_⟩⟩
          simp (config := { maxSteps := 1000000 }) (disch := first | omega | (simp only [sizeAlloc, sizeDrew, sizeSet, sizePut] <;> omega) | fail) only [GS1, GS2, GS3, GS4, GS5, GS6, GS7, GS8, GS9, GS10, GS11, TT_eq, TTl, Nat.reduceAdd, Nat.reduceMul, Nat.reduceSub, Nat.reduceDiv, Nat.reduceMod, Nat.reducePow, Nat.reduceEqDiff, ↓reduceIte, reduceCtorEq, true_and, and_true, and_self, false_and, and_false, Int.reduceToNat, Int.reduceAdd, Int.reduceSub, Int.reduceMul, cond_true, cond_false, List.toList_toArray, Option.map_some, Option.map_none, Option.some.injEq, List.cons_append, List.nil_append, List.length_cons, List.length_nil, List.getD_cons_zero, List.getD_cons_succ]
          refine ⟨fok79, tParts_cps t htm _ _ (fun h0 => absurd hck h0) fun _ sv w5 hown hM5 => .inl ⟨_, rfl, hold_ops okT (rs := []) rfl ?_⟩⟩
          have hB5 := hB4.mod hM5 (by simp)
          have hM05 : BM b w w5 := (hM3.trans hM4).trans ⟨[], hM5, by simp⟩
          obtain ⟨la, lc, rfl⟩ := (Rd.own hown).slice
          have hcl := ownsRow_one hown
          simp (config := { maxSteps := 1000000 }) (disch := first | omega | (simp only [sizeAlloc, sizeDrew, sizeSet, sizePut] <;> omega) | fail) only [GS1, GS2, GS3, GS4, GS5, GS6, GS7, GS8, GS9, GS10, GS11, TT_eq, TTl, Nat.reduceAdd, Nat.reduceMul, Nat.reduceSub, Nat.reduceDiv, Nat.reduceMod, Nat.reducePow, Nat.reduceEqDiff, ↓reduceIte, reduceCtorEq, true_and, and_true, and_self, false_and, and_false, Int.reduceToNat, Int.reduceAdd, Int.reduceSub, Int.reduceMul, cond_true, cond_false, List.toList_toArray, Option.map_some, Option.map_none, Option.some.injEq, List.cons_append, List.nil_append, List.length_cons, List.length_nil, List.getD_cons_zero, List.getD_cons_succ]
          refine hold_loop okT (rs := []) rfl [53] [11, 12, 54, 55, 56, 57, 58, 59, 60, 61, 62, 63, 64, 65, 66, 67] (fun vs w' => ∃ k : Nat, k ≤ (partsS t).length ∧ vs = [.int .i64 k] ∧ Bd b (cur ++ [91] ++ comS g ((partsS t).take k)) w' ∧ w'.ownsRow w4.heap.size 9 1 (.slice la (partsS t).length lc) (partsS t).length ((partsS t).map strV) ∧ BM b w w') (fun vs _ => match vs with | [.int _ i] => (partsS t).length - i.toNat | _ => 0) (by kernel_rfl) ⟨0, by omega, rfl, by rw [show comS g ((partsS t).take 0) = [] from rfl, List.append_nil]; exact hB5, hown, hM05⟩ ?_
          clear hown hB5 hM05 hM5 hB4 hM4
          rintro vs w6 J ⟨k, hk, rfl, hB6, hown, hM6⟩
          by_cases hlt : k < (partsS t).length
          · obtain ⟨b1, o1, c1, e1, _, g1⟩ := (Rd.own hown).at (by omega) (by omega)
            have f1 : w6.cell? ⟨b1, o1 + k, none⟩ = some (.string ⟨((partsS t)[k]).toArray⟩) := g1 k _ (getS hlt)
            rw [Value.slice.injEq] at e1
            obtain ⟨rfl, -, -⟩ := e1
            have hct := com_take g (partsS t) k hlt
            have hcl1 := clen k (by omega)
            have hcl2 := clen (k + 1) (by omega)
            have hpm := List.getElem_mem hlt
            have hpl := plen _ hpm
            have hph := hht.parts _ hpm
            generalize (partsS t)[k] = p at *
            by_cases hz : k = 0
            · rw [if_pos hz, hgp] at hct
              simp (config := { maxSteps := 1000000 }) (disch := first | omega | (simp only [sizeAlloc, sizeDrew, sizeSet, sizePut] <;> omega) | fail) only [GS1, GS2, GS3, GS4, GS5, GS6, GS7, GS8, GS9, GS10, GS11, TT_eq, TTl, Nat.reduceAdd, Nat.reduceMul, Nat.reduceSub, Nat.reduceDiv, Nat.reduceMod, Nat.reducePow, Nat.reduceEqDiff, ↓reduceIte, reduceCtorEq, true_and, and_true, and_self, false_and, and_false, Int.reduceToNat, Int.reduceAdd, Int.reduceSub, Int.reduceMul, cond_true, cond_false, List.toList_toArray, Option.map_some, Option.map_none, Option.some.injEq, List.cons_append, List.nil_append, List.length_cons, List.length_nil, List.getD_cons_zero, List.getD_cons_succ, f1]
              refine ⟨fok36, ih p (d - 1) b _ _ _ hph (by omega) (by omega) hB6 (by simp only [List.length_append, List.length_take, List.length_cons, List.length_nil]; omega) fun w7 hB7 hM7 => .inl ⟨_, rfl, hold_ops okT (rs := []) rfl ?_⟩⟩
              simp (config := { maxSteps := 1000000 }) (disch := first | omega | (simp only [sizeAlloc, sizeDrew, sizeSet, sizePut] <;> omega) | fail) only [GS1, GS2, GS3, GS4, GS5, GS6, GS7, GS8, GS9, GS10, GS11, TT_eq, TTl, Nat.reduceAdd, Nat.reduceMul, Nat.reduceSub, Nat.reduceDiv, Nat.reduceMod, Nat.reducePow, Nat.reduceEqDiff, ↓reduceIte, reduceCtorEq, true_and, and_true, and_self, false_and, and_false, Int.reduceToNat, Int.reduceAdd, Int.reduceSub, Int.reduceMul, cond_true, cond_false, List.toList_toArray, Option.map_some, Option.map_none, Option.some.injEq, List.cons_append, List.nil_append, List.length_cons, List.length_nil, List.getD_cons_zero, List.getD_cons_succ]
              refine ⟨⟨k + 1, by omega, rfl, ?_, ownsRow_bm hown hM7, hM6.trans hM7⟩, by omega⟩
              rw [hct, ← List.append_assoc]; exact hB7
            · rw [if_neg hz, hgp] at hct
              simp (config := { maxSteps := 1000000 }) (disch := first | omega | (simp only [sizeAlloc, sizeDrew, sizeSet, sizePut] <;> omega) | fail) only [GS1, GS2, GS3, GS4, GS5, GS6, GS7, GS8, GS9, GS10, GS11, TT_eq, TTl, Nat.reduceAdd, Nat.reduceMul, Nat.reduceSub, Nat.reduceDiv, Nat.reduceMod, Nat.reducePow, Nat.reduceEqDiff, ↓reduceIte, reduceCtorEq, true_and, and_true, and_self, false_and, and_false, Int.reduceToNat, Int.reduceAdd, Int.reduceSub, Int.reduceMul, cond_true, cond_false, List.toList_toArray, Option.map_some, Option.map_none, Option.some.injEq, List.cons_append, List.nil_append, List.length_cons, List.length_nil, List.getD_cons_zero, List.getD_cons_succ, f1]
              refine ⟨fok77, bdWrite_cps b _ [44, 32] _ hB6 (by simp only [List.length_append, List.length_take, List.length_cons, List.length_nil]; omega) _ fun w7 hB7 hM7 => .inl ⟨_, rfl, hold_ops okT (rs := []) rfl ?_⟩⟩
              simp (config := { maxSteps := 1000000 }) (disch := first | omega | (simp only [sizeAlloc, sizeDrew, sizeSet, sizePut] <;> omega) | fail) only [GS1, GS2, GS3, GS4, GS5, GS6, GS7, GS8, GS9, GS10, GS11, TT_eq, TTl, Nat.reduceAdd, Nat.reduceMul, Nat.reduceSub, Nat.reduceDiv, Nat.reduceMod, Nat.reducePow, Nat.reduceEqDiff, ↓reduceIte, reduceCtorEq, true_and, and_true, and_self, false_and, and_false, Int.reduceToNat, Int.reduceAdd, Int.reduceSub, Int.reduceMul, cond_true, cond_false, List.toList_toArray, Option.map_some, Option.map_none, Option.some.injEq, List.cons_append, List.nil_append, List.length_cons, List.length_nil, List.getD_cons_zero, List.getD_cons_succ]
              refine ⟨fok36, ih p (d - 1) b _ _ _ hph (by omega) (by omega) hB7 (by simp only [List.length_append, List.length_take, List.length_cons, List.length_nil]; omega) fun w8 hB8 hM8 => .inl ⟨_, rfl, hold_ops okT (rs := []) rfl ?_⟩⟩
              simp (config := { maxSteps := 1000000 }) (disch := first | omega | (simp only [sizeAlloc, sizeDrew, sizeSet, sizePut] <;> omega) | fail) only [GS1, GS2, GS3, GS4, GS5, GS6, GS7, GS8, GS9, GS10, GS11, TT_eq, TTl, Nat.reduceAdd, Nat.reduceMul, Nat.reduceSub, Nat.reduceDiv, Nat.reduceMod, Nat.reducePow, Nat.reduceEqDiff, ↓reduceIte, reduceCtorEq, true_and, and_true, and_self, false_and, and_false, Int.reduceToNat, Int.reduceAdd, Int.reduceSub, Int.reduceMul, cond_true, cond_false, List.toList_toArray, Option.map_some, Option.map_none, Option.some.injEq, List.cons_append, List.nil_append, List.length_cons, List.length_nil, List.getD_cons_zero, List.getD_cons_succ]
              refine ⟨⟨k + 1, by omega, rfl, ?_, ownsRow_bm (ownsRow_bm hown hM7) hM8, (hM6.trans hM7).trans hM8⟩, by omega⟩
              rw [hct]
              have e9 : cur ++ [91] ++ (comS g ((partsS t).take k) ++ 44 :: 32 :: tellS f p (d - 1)) = cur ++ [91] ++ comS g ((partsS t).take k) ++ [44, 32] ++ tellS f p (d - 1) := by simp
              rw [e9]; exact hB8
          · have e : k = (partsS t).length := by omega
            have hcl1 := clen k (by omega)
            subst e
            rw [List.take_length] at hB6 hcl1
            simp (config := { maxSteps := 1000000 }) (disch := first | omega | (simp only [sizeAlloc, sizeDrew, sizeSet, sizePut] <;> omega) | fail) only [GS1, GS2, GS3, GS4, GS5, GS6, GS7, GS8, GS9, GS10, GS11, TT_eq, TTl, Nat.reduceAdd, Nat.reduceMul, Nat.reduceSub, Nat.reduceDiv, Nat.reduceMod, Nat.reducePow, Nat.reduceEqDiff, ↓reduceIte, reduceCtorEq, true_and, and_true, and_self, false_and, and_false, Int.reduceToNat, Int.reduceAdd, Int.reduceSub, Int.reduceMul, cond_true, cond_false, List.toList_toArray, Option.map_some, Option.map_none, Option.some.injEq, List.cons_append, List.nil_append, List.length_cons, List.length_nil, List.getD_cons_zero, List.getD_cons_succ]
            refine ⟨fok77, bdWrite_cps b _ [93] _ hB6 (by simp only [List.length_append, List.length_take, List.length_cons, List.length_nil]; omega) _ fun w7 hB7 hM7 => .inl ⟨_, rfl, hold_ops okT (rs := []) rfl ?_⟩⟩
            simp (config := { maxSteps := 1000000 }) (disch := first | omega | (simp only [sizeAlloc, sizeDrew, sizeSet, sizePut] <;> omega) | fail) only [GS1, GS2, GS3, GS4, GS5, GS6, GS7, GS8, GS9, GS10, GS11, TT_eq, TTl, Nat.reduceAdd, Nat.reduceMul, Nat.reduceSub, Nat.reduceDiv, Nat.reduceMod, Nat.reducePow, Nat.reduceEqDiff, ↓reduceIte, reduceCtorEq, true_and, and_true, and_self, false_and, and_false, Int.reduceToNat, Int.reduceAdd, Int.reduceSub, Int.reduceMul, cond_true, cond_false, List.toList_toArray, Option.map_some, Option.map_none, Option.some.injEq, List.cons_append, List.nil_append, List.length_cons, List.length_nil, List.getD_cons_zero, List.getD_cons_succ]
            refine hR _ ?_ (hM6.trans hM7)
            have e9 : cur ++ ([91] ++ comS g (partsS t) ++ [93]) = cur ++ [91] ++ comS g (partsS t) ++ [93] := by simp
            rw [e9]; exact hB7
        · rw [if_neg hk3, if_neg hk3] at hR
          simp (config := { maxSteps := 1000000 }) (disch := first | omega | (simp only [sizeAlloc, sizeDrew, sizeSet, sizePut] <;> omega) | fail) only [GS1, GS2, GS3, GS4, GS5, GS6, GS7, GS8, GS9, GS10, GS11, TT_eq, TTl, Nat.reduceAdd, Nat.reduceMul, Nat.reduceSub, Nat.reduceDiv, Nat.reduceMod, Nat.reducePow, Nat.reduceEqDiff, ↓reduceIte, reduceCtorEq, true_and, and_true, and_self, false_and, and_false, Int.reduceToNat, Int.reduceAdd, Int.reduceSub, Int.reduceMul, cond_true, cond_false, List.toList_toArray, Option.map_some, Option.map_none, Option.some.injEq, List.cons_append, List.nil_append, List.length_cons, List.length_nil, List.getD_cons_zero, List.getD_cons_succ]
          refine ⟨fok77, bdWrite_cps b _ (t.take 1) _ hB2 (by rw [List.length_take]; omega) _ fun w3 hB3 hM3 => .inl ⟨_, rfl, hold_ops okT (rs := []) rfl ?_⟩⟩
          have hM3 := hBM2.trans hM3
          simp (config := { maxSteps := 1000000 }) (disch := first | omega | (simp only [sizeAlloc, sizeDrew, sizeSet, sizePut] <;> omega) | fail) only [GS1, GS2, GS3, GS4, GS5, GS6, GS7, GS8, GS9, GS10, GS11, TT_eq, TTl, Nat.reduceAdd, Nat.reduceMul, Nat.reduceSub, Nat.reduceDiv, Nat.reduceMod, Nat.reducePow, Nat.reduceEqDiff, ↓reduceIte, reduceCtorEq, true_and, and_true, and_self, false_and, and_false, Int.reduceToNat, Int.reduceAdd, Int.reduceSub, Int.reduceMul, cond_true, cond_false, List.toList_toArray, Option.map_some, Option.map_none, Option.some.injEq, List.cons_append, List.nil_append, List.length_cons, List.length_nil, List.getD_cons_zero, List.getD_cons_succ]
          refine ⟨fok77, bdWrite_cps b _ [40] _ hB3 (by simp only [List.length_append, List.length_take, List.length_cons, List.length_nil]; omega) _ fun w4 hB4 hM4 => .inl ⟨_, rfl, hold_ops okT (rs := []) rfl ?_⟩⟩
          simp (config := { maxSteps := 1000000 }) (disch := first | omega | (simp only [sizeAlloc, sizeDrew, sizeSet, sizePut] <;> omega) | fail) only [GS1, GS2, GS3, GS4, GS5, GS6, GS7, GS8, GS9, GS10, GS11, TT_eq, TTl, Nat.reduceAdd, Nat.reduceMul, Nat.reduceSub, Nat.reduceDiv, Nat.reduceMod, Nat.reducePow, Nat.reduceEqDiff, ↓reduceIte, reduceCtorEq, true_and, and_true, and_self, false_and, and_false, Int.reduceToNat, Int.reduceAdd, Int.reduceSub, Int.reduceMul, cond_true, cond_false, List.toList_toArray, Option.map_some, Option.map_none, Option.some.injEq, List.cons_append, List.nil_append, List.length_cons, List.length_nil, List.getD_cons_zero, List.getD_cons_succ]
          refine ⟨fok79, tParts_cps t htm _ _ (fun h0 => absurd hck h0) fun _ sv w5 hown hM5 => .inl ⟨_, rfl, hold_ops okT (rs := []) rfl ?_⟩⟩
          have hB5 := hB4.mod hM5 (by simp)
          have hM05 : BM b w w5 := (hM3.trans hM4).trans ⟨[], hM5, by simp⟩
          obtain ⟨la, lc, rfl⟩ := (Rd.own hown).slice
          have hcl := ownsRow_one hown
          simp (config := { maxSteps := 1000000 }) (disch := first | omega | (simp only [sizeAlloc, sizeDrew, sizeSet, sizePut] <;> omega) | fail) only [GS1, GS2, GS3, GS4, GS5, GS6, GS7, GS8, GS9, GS10, GS11, TT_eq, TTl, Nat.reduceAdd, Nat.reduceMul, Nat.reduceSub, Nat.reduceDiv, Nat.reduceMod, Nat.reducePow, Nat.reduceEqDiff, ↓reduceIte, reduceCtorEq, true_and, and_true, and_self, false_and, and_false, Int.reduceToNat, Int.reduceAdd, Int.reduceSub, Int.reduceMul, cond_true, cond_false, List.toList_toArray, Option.map_some, Option.map_none, Option.some.injEq, List.cons_append, List.nil_append, List.length_cons, List.length_nil, List.getD_cons_zero, List.getD_cons_succ]
          refine hold_loop okT (rs := []) rfl [53] [11, 12, 54, 55, 56, 57, 58, 59, 60, 61, 62, 63, 64, 65, 66, 67] (fun vs w' => ∃ k : Nat, k ≤ (partsS t).length ∧ vs = [.int .i64 k] ∧ Bd b (cur ++ t.take 1 ++ [40] ++ comS g ((partsS t).take k)) w' ∧ w'.ownsRow w4.heap.size 9 1 (.slice la (partsS t).length lc) (partsS t).length ((partsS t).map strV) ∧ BM b w w') (fun vs _ => match vs with | [.int _ i] => (partsS t).length - i.toNat | _ => 0) (by kernel_rfl) ⟨0, by omega, rfl, by rw [show comS g ((partsS t).take 0) = [] from rfl, List.append_nil]; exact hB5, hown, hM05⟩ ?_
          clear hown hB5 hM05 hM5 hB4 hM4
          rintro vs w6 J ⟨k, hk, rfl, hB6, hown, hM6⟩
          by_cases hlt : k < (partsS t).length
          · obtain ⟨b1, o1, c1, e1, _, g1⟩ := (Rd.own hown).at (by omega) (by omega)
            have f1 : w6.cell? ⟨b1, o1 + k, none⟩ = some (.string ⟨((partsS t)[k]).toArray⟩) := g1 k _ (getS hlt)
            rw [Value.slice.injEq] at e1
            obtain ⟨rfl, -, -⟩ := e1
            have hct := com_take g (partsS t) k hlt
            have hcl1 := clen k (by omega)
            have hcl2 := clen (k + 1) (by omega)
            have hpm := List.getElem_mem hlt
            have hpl := plen _ hpm
            have hph := hht.parts _ hpm
            generalize (partsS t)[k] = p at *
            by_cases hz : k = 0
            · rw [if_pos hz, hgp] at hct
              simp (config := { maxSteps := 1000000 }) (disch := first | omega | (simp only [sizeAlloc, sizeDrew, sizeSet, sizePut] <;> omega) | fail) only [GS1, GS2, GS3, GS4, GS5, GS6, GS7, GS8, GS9, GS10, GS11, TT_eq, TTl, Nat.reduceAdd, Nat.reduceMul, Nat.reduceSub, Nat.reduceDiv, Nat.reduceMod, Nat.reducePow, Nat.reduceEqDiff, ↓reduceIte, reduceCtorEq, true_and, and_true, and_self, false_and, and_false, Int.reduceToNat, Int.reduceAdd, Int.reduceSub, Int.reduceMul, cond_true, cond_false, List.toList_toArray, Option.map_some, Option.map_none, Option.some.injEq, List.cons_append, List.nil_append, List.length_cons, List.length_nil, List.getD_cons_zero, List.getD_cons_succ, f1]
              refine ⟨fok36, ih p (d - 1) b _ _ _ hph (by omega) (by omega) hB6 (by simp only [List.length_append, List.length_take, List.length_cons, List.length_nil]; omega) fun w7 hB7 hM7 => .inl ⟨_, rfl, hold_ops okT (rs := []) rfl ?_⟩⟩
              simp (config := { maxSteps := 1000000 }) (disch := first | omega | (simp only [sizeAlloc, sizeDrew, sizeSet, sizePut] <;> omega) | fail) only [GS1, GS2, GS3, GS4, GS5, GS6, GS7, GS8, GS9, GS10, GS11, TT_eq, TTl, Nat.reduceAdd, Nat.reduceMul, Nat.reduceSub, Nat.reduceDiv, Nat.reduceMod, Nat.reducePow, Nat.reduceEqDiff, ↓reduceIte, reduceCtorEq, true_and, and_true, and_self, false_and, and_false, Int.reduceToNat, Int.reduceAdd, Int.reduceSub, Int.reduceMul, cond_true, cond_false, List.toList_toArray, Option.map_some, Option.map_none, Option.some.injEq, List.cons_append, List.nil_append, List.length_cons, List.length_nil, List.getD_cons_zero, List.getD_cons_succ]
              refine ⟨⟨k + 1, by omega, rfl, ?_, ownsRow_bm hown hM7, hM6.trans hM7⟩, by omega⟩
              rw [hct, ← List.append_assoc]; exact hB7
            · rw [if_neg hz, hgp] at hct
              simp (config := { maxSteps := 1000000 }) (disch := first | omega | (simp only [sizeAlloc, sizeDrew, sizeSet, sizePut] <;> omega) | fail) only [GS1, GS2, GS3, GS4, GS5, GS6, GS7, GS8, GS9, GS10, GS11, TT_eq, TTl, Nat.reduceAdd, Nat.reduceMul, Nat.reduceSub, Nat.reduceDiv, Nat.reduceMod, Nat.reducePow, Nat.reduceEqDiff, ↓reduceIte, reduceCtorEq, true_and, and_true, and_self, false_and, and_false, Int.reduceToNat, Int.reduceAdd, Int.reduceSub, Int.reduceMul, cond_true, cond_false, List.toList_toArray, Option.map_some, Option.map_none, Option.some.injEq, List.cons_append, List.nil_append, List.length_cons, List.length_nil, List.getD_cons_zero, List.getD_cons_succ, f1]
              refine ⟨fok77, bdWrite_cps b _ [44, 32] _ hB6 (by simp only [List.length_append, List.length_take, List.length_cons, List.length_nil]; omega) _ fun w7 hB7 hM7 => .inl ⟨_, rfl, hold_ops okT (rs := []) rfl ?_⟩⟩
              simp (config := { maxSteps := 1000000 }) (disch := first | omega | (simp only [sizeAlloc, sizeDrew, sizeSet, sizePut] <;> omega) | fail) only [GS1, GS2, GS3, GS4, GS5, GS6, GS7, GS8, GS9, GS10, GS11, TT_eq, TTl, Nat.reduceAdd, Nat.reduceMul, Nat.reduceSub, Nat.reduceDiv, Nat.reduceMod, Nat.reducePow, Nat.reduceEqDiff, ↓reduceIte, reduceCtorEq, true_and, and_true, and_self, false_and, and_false, Int.reduceToNat, Int.reduceAdd, Int.reduceSub, Int.reduceMul, cond_true, cond_false, List.toList_toArray, Option.map_some, Option.map_none, Option.some.injEq, List.cons_append, List.nil_append, List.length_cons, List.length_nil, List.getD_cons_zero, List.getD_cons_succ]
              refine ⟨fok36, ih p (d - 1) b _ _ _ hph (by omega) (by omega) hB7 (by simp only [List.length_append, List.length_take, List.length_cons, List.length_nil]; omega) fun w8 hB8 hM8 => .inl ⟨_, rfl, hold_ops okT (rs := []) rfl ?_⟩⟩
              simp (config := { maxSteps := 1000000 }) (disch := first | omega | (simp only [sizeAlloc, sizeDrew, sizeSet, sizePut] <;> omega) | fail) only [GS1, GS2, GS3, GS4, GS5, GS6, GS7, GS8, GS9, GS10, GS11, TT_eq, TTl, Nat.reduceAdd, Nat.reduceMul, Nat.reduceSub, Nat.reduceDiv, Nat.reduceMod, Nat.reducePow, Nat.reduceEqDiff, ↓reduceIte, reduceCtorEq, true_and, and_true, and_self, false_and, and_false, Int.reduceToNat, Int.reduceAdd, Int.reduceSub, Int.reduceMul, cond_true, cond_false, List.toList_toArray, Option.map_some, Option.map_none, Option.some.injEq, List.cons_append, List.nil_append, List.length_cons, List.length_nil, List.getD_cons_zero, List.getD_cons_succ]
              refine ⟨⟨k + 1, by omega, rfl, ?_, ownsRow_bm (ownsRow_bm hown hM7) hM8, (hM6.trans hM7).trans hM8⟩, by omega⟩
              rw [hct]
              have e9 : cur ++ t.take 1 ++ [40] ++ (comS g ((partsS t).take k) ++ 44 :: 32 :: tellS f p (d - 1)) = cur ++ t.take 1 ++ [40] ++ comS g ((partsS t).take k) ++ [44, 32] ++ tellS f p (d - 1) := by simp
              rw [e9]; exact hB8
          · have e : k = (partsS t).length := by omega
            have hcl1 := clen k (by omega)
            subst e
            rw [List.take_length] at hB6 hcl1
            simp (config := { maxSteps := 1000000 }) (disch := first | omega | (simp only [sizeAlloc, sizeDrew, sizeSet, sizePut] <;> omega) | fail) only [GS1, GS2, GS3, GS4, GS5, GS6, GS7, GS8, GS9, GS10, GS11, TT_eq, TTl, Nat.reduceAdd, Nat.reduceMul, Nat.reduceSub, Nat.reduceDiv, Nat.reduceMod, Nat.reducePow, Nat.reduceEqDiff, ↓reduceIte, reduceCtorEq, true_and, and_true, and_self, false_and, and_false, Int.reduceToNat, Int.reduceAdd, Int.reduceSub, Int.reduceMul, cond_true, cond_false, List.toList_toArray, Option.map_some, Option.map_none, Option.some.injEq, List.cons_append, List.nil_append, List.length_cons, List.length_nil, List.getD_cons_zero, List.getD_cons_succ]
            refine ⟨fok77, bdWrite_cps b _ [41] _ hB6 (by simp only [List.length_append, List.length_take, List.length_cons, List.length_nil]; omega) _ fun w7 hB7 hM7 => .inl ⟨_, rfl, hold_ops okT (rs := []) rfl ?_⟩⟩
            simp (config := { maxSteps := 1000000 }) (disch := first | omega | (simp only [sizeAlloc, sizeDrew, sizeSet, sizePut] <;> omega) | fail) only [GS1, GS2, GS3, GS4, GS5, GS6, GS7, GS8, GS9, GS10, GS11, TT_eq, TTl, Nat.reduceAdd, Nat.reduceMul, Nat.reduceSub, Nat.reduceDiv, Nat.reduceMod, Nat.reducePow, Nat.reduceEqDiff, ↓reduceIte, reduceCtorEq, true_and, and_true, and_self, false_and, and_false, Int.reduceToNat, Int.reduceAdd, Int.reduceSub, Int.reduceMul, cond_true, cond_false, List.toList_toArray, Option.map_some, Option.map_none, Option.some.injEq, List.cons_append, List.nil_append, List.length_cons, List.length_nil, List.getD_cons_zero, List.getD_cons_succ]
            refine hR _ ?_ (hM6.trans hM7)
            have e9 : cur ++ ((t.take 1 ++ [40]) ++ comS g (partsS t) ++ [41]) = cur ++ t.take 1 ++ [40] ++ comS g (partsS t) ++ [41] := by simp
            rw [e9]; exact hB7
set_option maxHeartbeats 2000000 in
theorem sBrief_cps (t : List UInt8) (d : Int) (ht : t.length ≤ maxLen) (hd1 : -9223372036854775808 ≤ d) (hd2 : d ≤ 9223372036854775807) (w : World) (R : Ending → World → Prop) (hR : ∀ w', Mod [] w w' → R (.returned (stV (briefS t d))) w') :
    Calls Try.prog 13 #[.string ⟨t.toArray⟩, .int .i64 d] w R := by
  unfold briefS at hR
  refine calls_go 4000 okT Try.func13 rfl (rs := [.tmp 4, .tmp 5]) rfl Try.ntmps13 (args := [.string ⟨t.toArray⟩, .int .i64 d]) ?_
  simp (config := { maxSteps := 1000000 }) (disch := first | omega | (simp only [sizeAlloc, sizeDrew, sizeSet, sizePut] <;> omega) | fail) only [GS1, GS2, GS3, GS4, GS5, GS6, GS7, GS8, GS9, GS10, GS11, TT_eq, TTl, Nat.reduceAdd, Nat.reduceMul, Nat.reduceSub, Nat.reduceDiv, Nat.reduceMod, Nat.reducePow, Nat.reduceEqDiff, ↓reduceIte, reduceCtorEq, true_and, and_true, and_self, false_and, and_false, Int.reduceToNat, Int.reduceAdd, Int.reduceSub, Int.reduceMul, cond_true, cond_false, List.toList_toArray, Option.map_some, Option.map_none, Option.some.injEq, List.cons_append, List.nil_append, List.length_cons, List.length_nil, List.getD_cons_zero, List.getD_cons_succ]
  refine ⟨fok12, tCheck_cps t ht _ _ fun w1 hM1 => .inl ⟨_, rfl, hold_ops okT (rs := [.tmp 4, .tmp 5]) rfl ?_⟩⟩
  by_cases h0 : checkS t = 0
  · rw [if_pos h0] at hR
    have hl := (check0 h0).2.2.1
    have hht := ht_of h0
    have htl := tellS_len 16 t d hht
    simp (config := { maxSteps := 1000000 }) (disch := first | omega | (simp only [sizeAlloc, sizeDrew, sizeSet, sizePut] <;> omega) | fail) only [GS1, GS2, GS3, GS4, GS5, GS6, GS7, GS8, GS9, GS10, GS11, TT_eq, TTl, Nat.reduceAdd, Nat.reduceMul, Nat.reduceSub, Nat.reduceDiv, Nat.reduceMod, Nat.reducePow, Nat.reduceEqDiff, ↓reduceIte, reduceCtorEq, true_and, and_true, and_self, false_and, and_false, Int.reduceToNat, Int.reduceAdd, Int.reduceSub, Int.reduceMul, cond_true, cond_false, List.toList_toArray, Option.map_some, Option.map_none, Option.some.injEq, List.cons_append, List.nil_append, List.length_cons, List.length_nil, List.getD_cons_zero, List.getD_cons_succ]
    have hB := Bd.new (w := w1)
    have hM2 := hM1.alloc (.cells #[.pointer none, .slice none 0 0] 56)
    refine ⟨fok36, sTell_cps 16 t d w1.heap.size [] _ _ hht hd1 hd2 hB (by decide) fun w3 hB3 hM3 => .inl ⟨_, rfl, hold_ops okT (rs := [.tmp 4, .tmp 5]) rfl ?_⟩⟩
    rw [List.nil_append] at hB3
    simp (config := { maxSteps := 1000000 }) (disch := first | omega | (simp only [sizeAlloc, sizeDrew, sizeSet, sizePut] <;> omega) | fail) only [GS1, GS2, GS3, GS4, GS5, GS6, GS7, GS8, GS9, GS10, GS11, TT_eq, TTl, Nat.reduceAdd, Nat.reduceMul, Nat.reduceSub, Nat.reduceDiv, Nat.reduceMod, Nat.reducePow, Nat.reduceEqDiff, ↓reduceIte, reduceCtorEq, true_and, and_true, and_self, false_and, and_false, Int.reduceToNat, Int.reduceAdd, Int.reduceSub, Int.reduceMul, cond_true, cond_false, List.toList_toArray, Option.map_some, Option.map_none, Option.some.injEq, List.cons_append, List.nil_append, List.length_cons, List.length_nil, List.getD_cons_zero, List.getD_cons_succ]
    refine ⟨fok37, bdString_cps w1.heap.size _ _ hB3 (tellS_ne hht) _ fun w4 hB4 hM4 => .inl ⟨_, rfl, hold_ops okT (rs := [.tmp 4, .tmp 5]) rfl ?_⟩⟩
    simp (config := { maxSteps := 1000000 }) (disch := first | omega | (simp only [sizeAlloc, sizeDrew, sizeSet, sizePut] <;> omega) | fail) only [GS1, GS2, GS3, GS4, GS5, GS6, GS7, GS8, GS9, GS10, GS11, TT_eq, TTl, Nat.reduceAdd, Nat.reduceMul, Nat.reduceSub, Nat.reduceDiv, Nat.reduceMod, Nat.reducePow, Nat.reduceEqDiff, ↓reduceIte, reduceCtorEq, true_and, and_true, and_self, false_and, and_false, Int.reduceToNat, Int.reduceAdd, Int.reduceSub, Int.reduceMul, cond_true, cond_false, List.toList_toArray, Option.map_some, Option.map_none, Option.some.injEq, List.cons_append, List.nil_append, List.length_cons, List.length_nil, List.getD_cons_zero, List.getD_cons_succ]
    refine hR _ (Mod.under hM2 ((hM3.trans hM4).below ?_) hM1.size)
    rw [sizeAlloc]; omega
  · rw [if_neg h0] at hR
    simp (config := { maxSteps := 1000000 }) (disch := first | omega | (simp only [sizeAlloc, sizeDrew, sizeSet, sizePut] <;> omega) | fail) only [GS1, GS2, GS3, GS4, GS5, GS6, GS7, GS8, GS9, GS10, GS11, TT_eq, TTl, Nat.reduceAdd, Nat.reduceMul, Nat.reduceSub, Nat.reduceDiv, Nat.reduceMod, Nat.reducePow, Nat.reduceEqDiff, ↓reduceIte, reduceCtorEq, true_and, and_true, and_self, false_and, and_false, Int.reduceToNat, Int.reduceAdd, Int.reduceSub, Int.reduceMul, cond_true, cond_false, List.toList_toArray, Option.map_some, Option.map_none, Option.some.injEq, List.cons_append, List.nil_append, List.length_cons, List.length_nil, List.getD_cons_zero, List.getD_cons_succ]
    exact hR _ hM1
theorem sLine_cps (t : List UInt8) (ht : t.length ≤ maxLen) (w : World) (R : Ending → World → Prop) (hR : ∀ w', Mod [] w w' → R (.returned (stV (briefS t 16))) w') :
    Calls Try.prog 11 #[.string ⟨t.toArray⟩] w R := by
  refine calls_go 4000 okT Try.func11 rfl (rs := [.tmp 2, .tmp 3]) rfl Try.ntmps11 (args := [.string ⟨t.toArray⟩]) ?_
  simp (config := { maxSteps := 1000000 }) (disch := first | omega | (simp only [sizeAlloc, sizeDrew, sizeSet, sizePut] <;> omega) | fail) only [GS1, GS2, GS3, GS4, GS5, GS6, GS7, GS8, GS9, GS10, GS11, TT_eq, TTl, Nat.reduceAdd, Nat.reduceMul, Nat.reduceSub, Nat.reduceDiv, Nat.reduceMod, Nat.reducePow, Nat.reduceEqDiff, ↓reduceIte, reduceCtorEq, true_and, and_true, and_self, false_and, and_false, Int.reduceToNat, Int.reduceAdd, Int.reduceSub, Int.reduceMul, cond_true, cond_false, List.toList_toArray, Option.map_some, Option.map_none, Option.some.injEq, List.cons_append, List.nil_append, List.length_cons, List.length_nil, List.getD_cons_zero, List.getD_cons_succ]
  refine ⟨fok13, sBrief_cps t 16 ht (by omega) (by omega) _ _ fun w1 hM1 => .inl ⟨_, rfl, hold_ops okT (rs := [.tmp 2, .tmp 3]) rfl ?_⟩⟩
  generalize briefS t 16 = X at *
  obtain ⟨a, e⟩ := X
  unfold stV
  simp (config := { maxSteps := 1000000 }) (disch := first | omega | (simp only [sizeAlloc, sizeDrew, sizeSet, sizePut] <;> omega) | fail) only [GS1, GS2, GS3, GS4, GS5, GS6, GS7, GS8, GS9, GS10, GS11, TT_eq, TTl, Nat.reduceAdd, Nat.reduceMul, Nat.reduceSub, Nat.reduceDiv, Nat.reduceMod, Nat.reducePow, Nat.reduceEqDiff, ↓reduceIte, reduceCtorEq, true_and, and_true, and_self, false_and, and_false, Int.reduceToNat, Int.reduceAdd, Int.reduceSub, Int.reduceMul, cond_true, cond_false, List.toList_toArray, Option.map_some, Option.map_none, Option.some.injEq, List.cons_append, List.nil_append, List.length_cons, List.length_nil, List.getD_cons_zero, List.getD_cons_succ]
  exact hR _ hM1
end Go.Proofs.Ytpcmebcfgmoipaa

set_option linter.unusedSimpArgs false
set_option linter.unusedVariables false
namespace Go.Proofs.Ytpcmebcfgmoipaa
open Go Go.Wk Go.RowKit
attribute [local irreducible] go Hold
open Go.Lib
/-- How many runes a text has. -/
def cntR : Nat → List UInt8 → Nat
  | 0, _ => 0
  | f + 1, l => if l.length = 0 then 0 else cntR f (l.drop (decodeL l).2) + 1
def widS (l : List UInt8) : Nat := cntR l.length l
theorem cntR_le : ∀ (f : Nat) (l : List UInt8), cntR f l ≤ l.length
  | 0, l => Nat.zero_le _
  | f + 1, l => by
    unfold cntR
    split
    · omega
    · rename_i h0
      have h1 := cntR_le f (l.drop (decodeL l).2)
      have h2 := decL_pos h0
      rw [List.length_drop] at h1
      omega
theorem widS_le (l : List UInt8) : widS l ≤ l.length := cntR_le _ l
theorem widS_pos {l : List UInt8} (h : l ≠ []) : 1 ≤ widS l := by
  cases l with
  | nil => exact absurd rfl h
  | cons c r => unfold widS; rw [List.length_cons]; unfold cntR; rw [if_neg (by simp)]; omega
set_option maxHeartbeats 4000000 in
theorem uCount_cps (s : List UInt8) (hs : s.length ≤ maxLen) (w : World) (R : Ending → World → Prop) (hR : ∀ w', Mod [] w w' → R (.returned (.int .i64 (widS s))) w') :
    Calls Try.prog 38 #[.string ⟨s.toArray⟩] w R := by
  unfold maxLen at hs
  refine calls_go 4000 okT Try.func38 rfl (rs := [.tmp 2]) rfl Try.ntmps38 (args := [.string ⟨s.toArray⟩]) ?_
  simp (config := { maxSteps := 1000000 }) (disch := first | omega | (simp only [sizeAlloc, sizeDrew, sizeSet, sizePut] <;> omega) | fail) only [GS1, GS2, GS3, GS4, GS5, GS6, GS7, GS8, GS9, GS10, GS11, TT_eq, TTl, Nat.reduceAdd, Nat.reduceMul, Nat.reduceSub, Nat.reduceDiv, Nat.reduceMod, Nat.reducePow, Nat.reduceEqDiff, ↓reduceIte, reduceCtorEq, true_and, and_true, and_self, false_and, and_false, Int.reduceToNat, Int.reduceAdd, Int.reduceSub, Int.reduceMul, cond_true, cond_false, List.toList_toArray, Option.map_some, Option.map_none, Option.some.injEq, List.cons_append, List.nil_append, List.length_cons, List.length_nil, List.getD_cons_zero, List.getD_cons_succ]
  refine hold_range okT rfl rfl rfl (hold_ops okT (rs := [.tmp 2]) rfl ?_)
  simp (config := { maxSteps := 1000000 }) (disch := first | omega | (simp only [sizeAlloc, sizeDrew, sizeSet, sizePut] <;> omega) | fail) only [GS1, GS2, GS3, GS4, GS5, GS6, GS7, GS8, GS9, GS10, GS11, TT_eq, TTl, Nat.reduceAdd, Nat.reduceMul, Nat.reduceSub, Nat.reduceDiv, Nat.reduceMod, Nat.reducePow, Nat.reduceEqDiff, ↓reduceIte, reduceCtorEq, true_and, and_true, and_self, false_and, and_false, Int.reduceToNat, Int.reduceAdd, Int.reduceSub, Int.reduceMul, cond_true, cond_false, List.toList_toArray, Option.map_some, Option.map_none, Option.some.injEq, List.cons_append, List.nil_append, List.length_cons, List.length_nil, List.getD_cons_zero, List.getD_cons_succ]
  refine hold_loop okT (rs := [.tmp 2]) rfl [2] [5, 6, 7, 8] (fun vs w' => ∃ pos f n : Nat, vs = [.int .i64 n] ∧ pos ≤ s.length ∧ n ≤ pos ∧ s.length - pos ≤ f ∧ widS s = n + cntR f (s.drop pos) ∧ w'.heap[w.heap.size]? = some (.stringIter ⟨s.toArray⟩ pos) ∧ Mod [] w w') (fun _ w' => match w'.heap[w.heap.size]? with | some (.stringIter _ p) => s.length - p | _ => 0) (by kernel_rfl)
    ⟨0, s.length, 0, rfl, by omega, by omega, by omega, by rw [List.drop_zero, Nat.zero_add]; rfl, heapNew, (Mod.refl _ _).alloc _⟩ ?_
  rintro vs w1 J ⟨pos, f, n, rfl, hle, hn, hf, hwh, hit, hM⟩
  simp (config := { maxSteps := 1000000 }) (disch := first | omega | (simp only [sizeAlloc, sizeDrew, sizeSet, sizePut] <;> omega) | fail) only [GS1, GS2, GS3, GS4, GS5, GS6, GS7, GS8, GS9, GS10, GS11, TT_eq, TTl, Nat.reduceAdd, Nat.reduceMul, Nat.reduceSub, Nat.reduceDiv, Nat.reduceMod, Nat.reducePow, Nat.reduceEqDiff, ↓reduceIte, reduceCtorEq, true_and, and_true, and_self, false_and, and_false, Int.reduceToNat, Int.reduceAdd, Int.reduceSub, Int.reduceMul, cond_true, cond_false, List.toList_toArray, Option.map_some, Option.map_none, Option.some.injEq, List.cons_append, List.nil_append, List.length_cons, List.length_nil, List.getD_cons_zero, List.getD_cons_succ]
  by_cases hp : pos < s.length
  · refine hold_next rfl rfl hit hp ?_
    rw [dec_drop]
    obtain ⟨f, rfl⟩ : ∃ f', f = f' + 1 := ⟨f - 1, by omega⟩
    unfold cntR at hwh
    have hdl : (s.drop pos).length = s.length - pos := List.length_drop
    rw [if_neg (by omega)] at hwh
    have h1 := decL_pos (l := s.drop pos) (by omega)
    generalize decodeL (s.drop pos) = d at hwh h1 ⊢
    obtain ⟨x, m⟩ := d
    simp only at hwh h1
    refine hold_ops okT (rs := [.tmp 2]) rfl ?_
    simp (config := { maxSteps := 1000000 }) (disch := first | omega | (simp only [sizeAlloc, sizeDrew, sizeSet, sizePut] <;> omega) | fail) only [GS1, GS2, GS3, GS4, GS5, GS6, GS7, GS8, GS9, GS10, GS11, TT_eq, TTl, Nat.reduceAdd, Nat.reduceMul, Nat.reduceSub, Nat.reduceDiv, Nat.reduceMod, Nat.reducePow, Nat.reduceEqDiff, ↓reduceIte, reduceCtorEq, true_and, and_true, and_self, false_and, and_false, Int.reduceToNat, Int.reduceAdd, Int.reduceSub, Int.reduceMul, cond_true, cond_false, List.toList_toArray, Option.map_some, Option.map_none, Option.some.injEq, List.cons_append, List.nil_append, List.length_cons, List.length_nil, List.getD_cons_zero, List.getD_cons_succ]
    have hM1 := hM.put (l := w.heap.size) (.inr (Nat.le_refl _)) (.stringIter ⟨s.toArray⟩ (pos + m))
    have hit1 : (w1.putObj w.heap.size (.stringIter ⟨s.toArray⟩ (pos + m))).heap[w.heap.size]? = some (.stringIter ⟨s.toArray⟩ (pos + m)) := by
      simp only [World.putObj, Array.getElem?_setIfInBounds]; rw [if_pos trivial, if_pos (ltOf hit)]
    refine ⟨⟨pos + m, f, n + 1, rfl, by omega, by omega, by omega, ?_, hit1, hM1⟩, ?_⟩
    · rw [hwh, List.drop_drop]; omega
    · rw [hit1, hit]
      show s.length - (pos + m) < s.length - pos
      omega
  · refine hold_over rfl rfl hit hp ?_
    refine hold_ops okT (rs := [.tmp 2]) rfl ?_
    have e : pos = s.length := by omega
    subst e
    have : cntR f (s.drop s.length) = 0 := by
      rw [List.drop_length]
      cases f <;> simp [cntR]
    rw [this, Nat.add_zero] at hwh
    rw [hwh] at hR
    simp (config := { maxSteps := 1000000 }) (disch := first | omega | (simp only [sizeAlloc, sizeDrew, sizeSet, sizePut] <;> omega) | fail) only [GS1, GS2, GS3, GS4, GS5, GS6, GS7, GS8, GS9, GS10, GS11, TT_eq, TTl, Nat.reduceAdd, Nat.reduceMul, Nat.reduceSub, Nat.reduceDiv, Nat.reduceMod, Nat.reducePow, Nat.reduceEqDiff, ↓reduceIte, reduceCtorEq, true_and, and_true, and_self, false_and, and_false, Int.reduceToNat, Int.reduceAdd, Int.reduceSub, Int.reduceMul, cond_true, cond_false, List.toList_toArray, Option.map_some, Option.map_none, Option.some.injEq, List.cons_append, List.nil_append, List.length_cons, List.length_nil, List.getD_cons_zero, List.getD_cons_succ]
    exact hR _ hM
theorem sWidth_cps (s : List UInt8) (hs : s.length ≤ maxLen) (w : World) (R : Ending → World → Prop) (hR : ∀ w', Mod [] w w' → R (.returned (.int .i64 (widS s))) w') :
    Calls Try.prog 14 #[.string ⟨s.toArray⟩] w R := by
  refine calls_go 4000 okT Try.func14 rfl (rs := [.tmp 2]) rfl Try.ntmps14 (args := [.string ⟨s.toArray⟩]) ?_
  simp (config := { maxSteps := 1000000 }) (disch := first | omega | (simp only [sizeAlloc, sizeDrew, sizeSet, sizePut] <;> omega) | fail) only [GS1, GS2, GS3, GS4, GS5, GS6, GS7, GS8, GS9, GS10, GS11, TT_eq, TTl, Nat.reduceAdd, Nat.reduceMul, Nat.reduceSub, Nat.reduceDiv, Nat.reduceMod, Nat.reducePow, Nat.reduceEqDiff, ↓reduceIte, reduceCtorEq, true_and, and_true, and_self, false_and, and_false, Int.reduceToNat, Int.reduceAdd, Int.reduceSub, Int.reduceMul, cond_true, cond_false, List.toList_toArray, Option.map_some, Option.map_none, Option.some.injEq, List.cons_append, List.nil_append, List.length_cons, List.length_nil, List.getD_cons_zero, List.getD_cons_succ]
  refine ⟨fok38, uCount_cps s hs _ _ fun w1 hM => .inl ⟨_, rfl, hold_ops okT (rs := [.tmp 2]) rfl ?_⟩⟩
  simp (config := { maxSteps := 1000000 }) (disch := first | omega | (simp only [sizeAlloc, sizeDrew, sizeSet, sizePut] <;> omega) | fail) only [GS1, GS2, GS3, GS4, GS5, GS6, GS7, GS8, GS9, GS10, GS11, TT_eq, TTl, Nat.reduceAdd, Nat.reduceMul, Nat.reduceSub, Nat.reduceDiv, Nat.reduceMod, Nat.reducePow, Nat.reduceEqDiff, ↓reduceIte, reduceCtorEq, true_and, and_true, and_self, false_and, and_false, Int.reduceToNat, Int.reduceAdd, Int.reduceSub, Int.reduceMul, cond_true, cond_false, List.toList_toArray, Option.map_some, Option.map_none, Option.some.injEq, List.cons_append, List.nil_append, List.length_cons, List.length_nil, List.getD_cons_zero, List.getD_cons_succ]
  exact hR _ hM
/-! the examples -/
abbrev eK : List UInt8 := [97, 5, 107, 47, 48, 47, 49]
abbrev eA : List UInt8 := [100, 2, 97, 98]
abbrev eB : List UInt8 := [100, 1, 0]
abbrev eC : List UInt8 := [100, 0]
abbrev eD : List UInt8 := [100, 2, 206, 177]
abbrev eR : List UInt8 := [114, 2, 100, 2, 97, 98, 100, 1, 0]
abbrev eM : List UInt8 := [109, 97, 5, 107, 47, 48, 47, 49, 114, 2, 100, 2, 97, 98, 100, 1, 0]
abbrev lM : List UInt8 := [109, 40, 36, 107, 47, 48, 47, 49, 44, 32, 91, 34, 97, 98, 34, 44, 32, 120, 48, 48, 93, 41]
abbrev lB : List UInt8 := [109, 40, 36, 107, 47, 48, 47, 49, 44, 32, 91, 46, 46, 44, 32, 46, 46, 93, 41]
theorem x1 : atomS [107, 47, 48, 47, 49] = (eK, 0) := by decide +kernel
theorem x2 : dataS [97, 98] = (eA, 0) := by decide +kernel
theorem x3 : dataS [0] = (eB, 0) := by decide +kernel
theorem x4 : dataS [] = (eC, 0) := by decide +kernel
theorem x5 : dataS [206, 177] = (eD, 0) := by decide +kernel
theorem x6 : madeS (114 :: numL 2) [eA, eB] = (eR, 0) := by decide +kernel
theorem x7 : madeS [109] [eK, eR] = (eM, 0) := by decide +kernel
theorem x8 : briefS eM 16 = (lM, 0) := by decide +kernel
theorem x9 : briefS eM 2 = (lB, 0) := by decide +kernel
theorem x10 : briefS eC 16 = ([34, 34], 0) := by decide +kernel
theorem x11 : briefS eD 16 = ([34, 206, 177, 34], 0) := by decide +kernel
theorem x12 : parseS lM = (eM, 0) := by decide +kernel
set_option maxRecDepth 20000 in
set_option maxHeartbeats 4000000 in
theorem alive_cps (w : World) (R : Ending → World → Prop) (hR : ∀ w', Mod [] w w' → R (.returned (.bool true)) w') : Calls Try.prog 8 #[] w R := by
  refine calls_go 4000 okT Try.func8 rfl (rs := [.tmp 0]) rfl Try.ntmps8 (args := []) ?_
  simp (config := { maxSteps := 1000000 }) (disch := first | omega | (simp only [sizeAlloc, sizeDrew, sizeSet, sizePut] <;> omega) | fail) only [GS1, GS2, GS3, GS4, GS5, GS6, GS7, GS8, GS9, GS10, GS11, TT_eq, TTl, Nat.reduceAdd, Nat.reduceMul, Nat.reduceSub, Nat.reduceDiv, Nat.reduceMod, Nat.reducePow, Nat.reduceEqDiff, ↓reduceIte, reduceCtorEq, true_and, and_true, and_self, false_and, and_false, Int.reduceToNat, Int.reduceAdd, Int.reduceSub, Int.reduceMul, cond_true, cond_false, List.toList_toArray, Option.map_some, Option.map_none, Option.some.injEq, List.cons_append, List.nil_append, List.length_cons, List.length_nil, List.getD_cons_zero, List.getD_cons_succ]
  refine ⟨fok23, tAtom_cps [107, 47, 48, 47, 49] (by decide) _ _ fun w1 hM1 => .inl ⟨_, rfl, hold_ops okT (rs := [.tmp 0]) rfl ?_⟩⟩
  rw [x1]
  unfold stV
  simp (config := { maxSteps := 1000000 }) (disch := first | omega | (simp only [sizeAlloc, sizeDrew, sizeSet, sizePut] <;> omega) | fail) only [GS1, GS2, GS3, GS4, GS5, GS6, GS7, GS8, GS9, GS10, GS11, TT_eq, TTl, Nat.reduceAdd, Nat.reduceMul, Nat.reduceSub, Nat.reduceDiv, Nat.reduceMod, Nat.reducePow, Nat.reduceEqDiff, ↓reduceIte, reduceCtorEq, true_and, and_true, and_self, false_and, and_false, Int.reduceToNat, Int.reduceAdd, Int.reduceSub, Int.reduceMul, cond_true, cond_false, List.toList_toArray, Option.map_some, Option.map_none, Option.some.injEq, List.cons_append, List.nil_append, List.length_cons, List.length_nil, List.getD_cons_zero, List.getD_cons_succ]
  refine ⟨fok28, tData_cps [97, 98] (by decide) _ _ fun w2 hM2 => .inl ⟨_, rfl, hold_ops okT (rs := [.tmp 0]) rfl ?_⟩⟩
  rw [x2]
  unfold stV
  simp (config := { maxSteps := 1000000 }) (disch := first | omega | (simp only [sizeAlloc, sizeDrew, sizeSet, sizePut] <;> omega) | fail) only [GS1, GS2, GS3, GS4, GS5, GS6, GS7, GS8, GS9, GS10, GS11, TT_eq, TTl, Nat.reduceAdd, Nat.reduceMul, Nat.reduceSub, Nat.reduceDiv, Nat.reduceMod, Nat.reducePow, Nat.reduceEqDiff, ↓reduceIte, reduceCtorEq, true_and, and_true, and_self, false_and, and_false, Int.reduceToNat, Int.reduceAdd, Int.reduceSub, Int.reduceMul, cond_true, cond_false, List.toList_toArray, Option.map_some, Option.map_none, Option.some.injEq, List.cons_append, List.nil_append, List.length_cons, List.length_nil, List.getD_cons_zero, List.getD_cons_succ]
  refine ⟨fok28, tData_cps [0] (by decide) _ _ fun w3 hM3 => .inl ⟨_, rfl, hold_ops okT (rs := [.tmp 0]) rfl ?_⟩⟩
  rw [x3]
  unfold stV
  simp (config := { maxSteps := 1000000 }) (disch := first | omega | (simp only [sizeAlloc, sizeDrew, sizeSet, sizePut] <;> omega) | fail) only [GS1, GS2, GS3, GS4, GS5, GS6, GS7, GS8, GS9, GS10, GS11, TT_eq, TTl, Nat.reduceAdd, Nat.reduceMul, Nat.reduceSub, Nat.reduceDiv, Nat.reduceMod, Nat.reducePow, Nat.reduceEqDiff, ↓reduceIte, reduceCtorEq, true_and, and_true, and_self, false_and, and_false, Int.reduceToNat, Int.reduceAdd, Int.reduceSub, Int.reduceMul, cond_true, cond_false, List.toList_toArray, Option.map_some, Option.map_none, Option.some.injEq, List.cons_append, List.nil_append, List.length_cons, List.length_nil, List.getD_cons_zero, List.getD_cons_succ]
  refine ⟨fok28, tData_cps [] (by decide) _ _ fun w4 hM4 => .inl ⟨_, rfl, hold_ops okT (rs := [.tmp 0]) rfl ?_⟩⟩
  rw [x4]
  unfold stV
  simp (config := { maxSteps := 1000000 }) (disch := first | omega | (simp only [sizeAlloc, sizeDrew, sizeSet, sizePut] <;> omega) | fail) only [GS1, GS2, GS3, GS4, GS5, GS6, GS7, GS8, GS9, GS10, GS11, TT_eq, TTl, Nat.reduceAdd, Nat.reduceMul, Nat.reduceSub, Nat.reduceDiv, Nat.reduceMod, Nat.reducePow, Nat.reduceEqDiff, ↓reduceIte, reduceCtorEq, true_and, and_true, and_self, false_and, and_false, Int.reduceToNat, Int.reduceAdd, Int.reduceSub, Int.reduceMul, cond_true, cond_false, List.toList_toArray, Option.map_some, Option.map_none, Option.some.injEq, List.cons_append, List.nil_append, List.length_cons, List.length_nil, List.getD_cons_zero, List.getD_cons_succ]
  refine ⟨fok28, tData_cps [206, 177] (by decide) _ _ fun w5 hM5 => .inl ⟨_, rfl, hold_ops okT (rs := [.tmp 0]) rfl ?_⟩⟩
  rw [x5]
  unfold stV
  simp (config := { maxSteps := 1000000 }) (disch := first | omega | (simp only [sizeAlloc, sizeDrew, sizeSet, sizePut] <;> omega) | fail) only [GS1, GS2, GS3, GS4, GS5, GS6, GS7, GS8, GS9, GS10, GS11, TT_eq, TTl, Nat.reduceAdd, Nat.reduceMul, Nat.reduceSub, Nat.reduceDiv, Nat.reduceMod, Nat.reducePow, Nat.reduceEqDiff, ↓reduceIte, reduceCtorEq, true_and, and_true, and_self, false_and, and_false, Int.reduceToNat, Int.reduceAdd, Int.reduceSub, Int.reduceMul, cond_true, cond_false, List.toList_toArray, Option.map_some, Option.map_none, Option.some.injEq, List.cons_append, List.nil_append, List.length_cons, List.length_nil, List.getD_cons_zero, List.getD_cons_succ]
  have hW5 := (((hM1.trans hM2 (by simp)).trans hM3 (by simp)).trans hM4 (by simp)).trans hM5 (by simp)
  clear hM1 hM2 hM3 hM4 hM5
  have hrd := Rd.lit (w := w5) (size := 1) (n := 2) (e := 9) (xs := [eA, eB].map strV) rfl
  refine ⟨fok29, tRow_cps _ [eA, eB] _ _ (by decide) (by decide) hrd fun w6 hM6 => .inl ⟨_, rfl, hold_ops okT (rs := [.tmp 0]) rfl ?_⟩⟩
  rw [show madeS (114 :: numL [eA, eB].length) [eA, eB] = (eR, 0) from x6]
  unfold stV
  simp (config := { maxSteps := 1000000 }) (disch := first | omega | (simp only [sizeAlloc, sizeDrew, sizeSet, sizePut] <;> omega) | fail) only [GS1, GS2, GS3, GS4, GS5, GS6, GS7, GS8, GS9, GS10, GS11, TT_eq, TTl, Nat.reduceAdd, Nat.reduceMul, Nat.reduceSub, Nat.reduceDiv, Nat.reduceMod, Nat.reducePow, Nat.reduceEqDiff, ↓reduceIte, reduceCtorEq, true_and, and_true, and_self, false_and, and_false, Int.reduceToNat, Int.reduceAdd, Int.reduceSub, Int.reduceMul, cond_true, cond_false, List.toList_toArray, Option.map_some, Option.map_none, Option.some.injEq, List.cons_append, List.nil_append, List.length_cons, List.length_nil, List.getD_cons_zero, List.getD_cons_succ]
  refine ⟨fok30, tMac_cps eK eR (by decide) (by decide) _ _ fun w7 hM7 => .inl ⟨_, rfl, hold_ops okT (rs := [.tmp 0]) rfl ?_⟩⟩
  rw [x7]
  unfold stV
  simp (config := { maxSteps := 1000000 }) (disch := first | omega | (simp only [sizeAlloc, sizeDrew, sizeSet, sizePut] <;> omega) | fail) only [GS1, GS2, GS3, GS4, GS5, GS6, GS7, GS8, GS9, GS10, GS11, TT_eq, TTl, Nat.reduceAdd, Nat.reduceMul, Nat.reduceSub, Nat.reduceDiv, Nat.reduceMod, Nat.reducePow, Nat.reduceEqDiff, ↓reduceIte, reduceCtorEq, true_and, and_true, and_self, false_and, and_false, Int.reduceToNat, Int.reduceAdd, Int.reduceSub, Int.reduceMul, cond_true, cond_false, List.toList_toArray, Option.map_some, Option.map_none, Option.some.injEq, List.cons_append, List.nil_append, List.length_cons, List.length_nil, List.getD_cons_zero, List.getD_cons_succ]
  have hW7 := (((hW5.alloc _).trans hM6 (by simp)).trans hM7 (by simp))
  clear hM6 hM7 hrd hW5
  refine ⟨fok11, sLine_cps eM (by decide) _ _ fun w8 hM8 => .inl ⟨_, rfl, hold_ops okT (rs := [.tmp 0]) rfl ?_⟩⟩
  rw [x8]
  unfold stV
  simp (config := { maxSteps := 1000000 }) (disch := first | omega | (simp only [sizeAlloc, sizeDrew, sizeSet, sizePut] <;> omega) | fail) only [GS1, GS2, GS3, GS4, GS5, GS6, GS7, GS8, GS9, GS10, GS11, TT_eq, TTl, Nat.reduceAdd, Nat.reduceMul, Nat.reduceSub, Nat.reduceDiv, Nat.reduceMod, Nat.reducePow, Nat.reduceEqDiff, ↓reduceIte, reduceCtorEq, true_and, and_true, and_self, false_and, and_false, Int.reduceToNat, Int.reduceAdd, Int.reduceSub, Int.reduceMul, cond_true, cond_false, List.toList_toArray, Option.map_some, Option.map_none, Option.some.injEq, List.cons_append, List.nil_append, List.length_cons, List.length_nil, List.getD_cons_zero, List.getD_cons_succ]
  refine ⟨fok13, sBrief_cps eM 2 (by decide) (by decide) (by decide) _ _ fun w9 hM9 => .inl ⟨_, rfl, hold_ops okT (rs := [.tmp 0]) rfl ?_⟩⟩
  rw [x9]
  unfold stV
  simp (config := { maxSteps := 1000000 }) (disch := first | omega | (simp only [sizeAlloc, sizeDrew, sizeSet, sizePut] <;> omega) | fail) only [GS1, GS2, GS3, GS4, GS5, GS6, GS7, GS8, GS9, GS10, GS11, TT_eq, TTl, Nat.reduceAdd, Nat.reduceMul, Nat.reduceSub, Nat.reduceDiv, Nat.reduceMod, Nat.reducePow, Nat.reduceEqDiff, ↓reduceIte, reduceCtorEq, true_and, and_true, and_self, false_and, and_false, Int.reduceToNat, Int.reduceAdd, Int.reduceSub, Int.reduceMul, cond_true, cond_false, List.toList_toArray, Option.map_some, Option.map_none, Option.some.injEq, List.cons_append, List.nil_append, List.length_cons, List.length_nil, List.getD_cons_zero, List.getD_cons_succ]
  refine ⟨fok11, sLine_cps eC (by decide) _ _ fun w10 hM10 => .inl ⟨_, rfl, hold_ops okT (rs := [.tmp 0]) rfl ?_⟩⟩
  rw [x10]
  unfold stV
  simp (config := { maxSteps := 1000000 }) (disch := first | omega | (simp only [sizeAlloc, sizeDrew, sizeSet, sizePut] <;> omega) | fail) only [GS1, GS2, GS3, GS4, GS5, GS6, GS7, GS8, GS9, GS10, GS11, TT_eq, TTl, Nat.reduceAdd, Nat.reduceMul, Nat.reduceSub, Nat.reduceDiv, Nat.reduceMod, Nat.reducePow, Nat.reduceEqDiff, ↓reduceIte, reduceCtorEq, true_and, and_true, and_self, false_and, and_false, Int.reduceToNat, Int.reduceAdd, Int.reduceSub, Int.reduceMul, cond_true, cond_false, List.toList_toArray, Option.map_some, Option.map_none, Option.some.injEq, List.cons_append, List.nil_append, List.length_cons, List.length_nil, List.getD_cons_zero, List.getD_cons_succ]
  refine ⟨fok11, sLine_cps eD (by decide) _ _ fun w11 hM11 => .inl ⟨_, rfl, hold_ops okT (rs := [.tmp 0]) rfl ?_⟩⟩
  rw [x11]
  unfold stV
  simp (config := { maxSteps := 1000000 }) (disch := first | omega | (simp only [sizeAlloc, sizeDrew, sizeSet, sizePut] <;> omega) | fail) only [GS1, GS2, GS3, GS4, GS5, GS6, GS7, GS8, GS9, GS10, GS11, TT_eq, TTl, Nat.reduceAdd, Nat.reduceMul, Nat.reduceSub, Nat.reduceDiv, Nat.reduceMod, Nat.reducePow, Nat.reduceEqDiff, ↓reduceIte, reduceCtorEq, true_and, and_true, and_self, false_and, and_false, Int.reduceToNat, Int.reduceAdd, Int.reduceSub, Int.reduceMul, cond_true, cond_false, List.toList_toArray, Option.map_some, Option.map_none, Option.some.injEq, List.cons_append, List.nil_append, List.length_cons, List.length_nil, List.getD_cons_zero, List.getD_cons_succ]
  refine ⟨fok9, sParse_cps lM (by decide) _ _ fun w12 hM12 => .inl ⟨_, rfl, hold_ops okT (rs := [.tmp 0]) rfl ?_⟩⟩
  rw [x12]
  unfold stV
  have hW := ((((hW7.trans hM8 (by simp)).trans hM9 (by simp)).trans hM10 (by simp)).trans hM11 (by simp)).trans hM12 (by simp)
  simp (config := { maxSteps := 1000000 }) (disch := first | omega | (simp only [sizeAlloc, sizeDrew, sizeSet, sizePut] <;> omega) | fail) only [GS1, GS2, GS3, GS4, GS5, GS6, GS7, GS8, GS9, GS10, GS11, TT_eq, TTl, Nat.reduceAdd, Nat.reduceMul, Nat.reduceSub, Nat.reduceDiv, Nat.reduceMod, Nat.reducePow, Nat.reduceEqDiff, ↓reduceIte, reduceCtorEq, true_and, and_true, and_self, false_and, and_false, Int.reduceToNat, Int.reduceAdd, Int.reduceSub, Int.reduceMul, cond_true, cond_false, List.toList_toArray, Option.map_some, Option.map_none, Option.some.injEq, List.cons_append, List.nil_append, List.length_cons, List.length_nil, List.getD_cons_zero, List.getD_cons_succ, eq_self]
  exact hR _ hW
end Go.Proofs.Ytpcmebcfgmoipaa
