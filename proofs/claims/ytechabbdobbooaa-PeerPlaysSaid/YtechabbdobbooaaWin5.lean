/-
  Two rows of numbers; the chapter's example of the window.
-/
import Derived.Test.YtechabbdobbooaaWin4
set_option linter.unusedSimpArgs false
set_option linter.unusedVariables false
namespace Go.Proofs.Ytechabbdobbooaa
open Go Go.Wk Go.RowKit
attribute [local irreducible] go Hold
set_option maxHeartbeats 1000000 in
theorem SameInts_cps (sa sb : Value) (xs ys : List Int) (w : World) (R : Ending → World → Prop) (hx : xs.length ≤ 9223372036854775807) (ha : Rd w 1 sa xs.length (xs.map (Value.int .i64))) (hb : Rd w 1 sb ys.length (ys.map (Value.int .i64)))
    (hR : ∀ n, R (.returned (.bool (decide (xs = ys)))) (w.drewN n)) : Calls Try.prog 24 #[sa, sb] w R := by
  have hR0 := hR 0
  rw [World.drewN_zero] at hR0
  have hl2 := hx
  by_cases hl : xs.length = ys.length
  · obtain ⟨a, ca, rfl⟩ := ha.slice
    obtain ⟨b, cb, rfl⟩ := hb.slice
    refine calls_go 4000 okT Try.func24 rfl (rs := [.tmp 4]) rfl Try.ntmps24 (args := [.slice a xs.length ca, .slice b ys.length cb]) ?_
    simp (config := { maxSteps := 1000000 }) (disch := first | omega | (simp only [sizeAlloc, sizeDrew, sizeSet, sizePut]; omega) | fail) only [GS1, GS2, GS3, GS4, GS5, GS6, GS7, GS8, GS9, GS10, TT_eq, TTl, Nat.reduceAdd, Nat.reduceMul, Nat.reduceSub, Nat.reduceDiv, Nat.reduceMod, Nat.reducePow, Nat.reduceEqDiff, ↓reduceIte, reduceCtorEq, true_and, and_true, and_self, false_and, and_false, Int.reduceToNat, Int.reduceAdd, Int.reduceSub, Int.reduceMul, cond_true, cond_false, List.toList_toArray, Option.map_some, Option.map_none, Option.some.injEq, List.cons_append, List.nil_append]
    refine hold_loop okT (rs := [.tmp 4]) rfl [5] [4, 11, 12, 13, 14, 15, 16, 17, 18, 19, 20, 21, 22, 23, 24, 25] (fun vs w' => ∃ k n : Nat, k ≤ xs.length ∧ vs = [.int .i64 k] ∧ w' = w.drewN n ∧ xs.take k = ys.take k) (fun vs _ => match vs with | [.int _ i] => xs.length - i.toNat | _ => 0) (by kernel_rfl) ⟨0, 0, by omega, rfl, rfl, by simp⟩ ?_
    rintro vs w' J ⟨k, n, hk, rfl, rfl, ht⟩
    by_cases hlt : k < xs.length
    · obtain ⟨b1, o1, c1, e1, _, g1⟩ := ha.at (by omega) (by omega)
      obtain ⟨b2, o2, c2, e2, _, g2⟩ := hb.at (by omega) (by omega)
      have f1 := g1 k _ (getI hlt)
      have f2 := g2 k _ (getI (hl ▸ hlt))
      rw [Value.slice.injEq] at e1 e2
      obtain ⟨rfl, -, -⟩ := e1
      obtain ⟨rfl, -, -⟩ := e2
      by_cases he : xs[k] = ys[k]
      · simp (config := { maxSteps := 1000000 }) (disch := first | omega | (simp only [sizeAlloc, sizeDrew, sizeSet, sizePut]; omega) | fail) only [GS1, GS2, GS3, GS4, GS5, GS6, GS7, GS8, GS9, GS10, TT_eq, TTl, Nat.reduceAdd, Nat.reduceMul, Nat.reduceSub, Nat.reduceDiv, Nat.reduceMod, Nat.reducePow, Nat.reduceEqDiff, ↓reduceIte, reduceCtorEq, true_and, and_true, and_self, false_and, and_false, Int.reduceToNat, Int.reduceAdd, Int.reduceSub, Int.reduceMul, cond_true, cond_false, List.toList_toArray, Option.map_some, Option.map_none, Option.some.injEq, List.cons_append, List.nil_append, f1, f2, he]
        refine ⟨by kernel_rfl, fun m => ⟨⟨k + 1, n + m, by omega, rfl, rfl, ?_⟩, by omega⟩⟩
        rw [List.take_succ_eq_append_getElem hlt, List.take_succ_eq_append_getElem (hl ▸ hlt), ht, he]
      · simp (config := { maxSteps := 1000000 }) (disch := first | omega | (simp only [sizeAlloc, sizeDrew, sizeSet, sizePut]; omega) | fail) only [GS1, GS2, GS3, GS4, GS5, GS6, GS7, GS8, GS9, GS10, TT_eq, TTl, Nat.reduceAdd, Nat.reduceMul, Nat.reduceSub, Nat.reduceDiv, Nat.reduceMod, Nat.reducePow, Nat.reduceEqDiff, ↓reduceIte, reduceCtorEq, true_and, and_true, and_self, false_and, and_false, Int.reduceToNat, Int.reduceAdd, Int.reduceSub, Int.reduceMul, cond_true, cond_false, List.toList_toArray, Option.map_some, Option.map_none, Option.some.injEq, List.cons_append, List.nil_append, f1, f2, he]
        rw [decide_eq_false (fun e => he (by subst e; rfl))] at hR
        exact ⟨by kernel_rfl, fun m => hR _⟩
    · have e : k = xs.length := by omega
      subst e
      have e2 : xs = ys := by rw [List.take_length] at ht; rw [ht, hl, List.take_length]
      simp (config := { maxSteps := 1000000 }) (disch := first | omega | (simp only [sizeAlloc, sizeDrew, sizeSet, sizePut]; omega) | fail) only [GS1, GS2, GS3, GS4, GS5, GS6, GS7, GS8, GS9, GS10, TT_eq, TTl, Nat.reduceAdd, Nat.reduceMul, Nat.reduceSub, Nat.reduceDiv, Nat.reduceMod, Nat.reducePow, Nat.reduceEqDiff, ↓reduceIte, reduceCtorEq, true_and, and_true, and_self, false_and, and_false, Int.reduceToNat, Int.reduceAdd, Int.reduceSub, Int.reduceMul, cond_true, cond_false, List.toList_toArray, Option.map_some, Option.map_none, Option.some.injEq, List.cons_append, List.nil_append]
      rw [decide_eq_true e2] at hR
      exact hR n
  · obtain ⟨a, ca, rfl⟩ := ha.slice
    obtain ⟨b, cb, rfl⟩ := hb.slice
    refine calls_go 4000 okT Try.func24 rfl (rs := [.tmp 4]) rfl Try.ntmps24 (args := [.slice a xs.length ca, .slice b ys.length cb]) ?_
    simp (config := { maxSteps := 1000000 }) (disch := first | omega | (simp only [sizeAlloc, sizeDrew, sizeSet, sizePut]; omega) | fail) only [GS1, GS2, GS3, GS4, GS5, GS6, GS7, GS8, GS9, GS10, TT_eq, TTl, Nat.reduceAdd, Nat.reduceMul, Nat.reduceSub, Nat.reduceDiv, Nat.reduceMod, Nat.reducePow, Nat.reduceEqDiff, ↓reduceIte, reduceCtorEq, true_and, and_true, and_self, false_and, and_false, Int.reduceToNat, Int.reduceAdd, Int.reduceSub, Int.reduceMul, cond_true, cond_false, List.toList_toArray, Option.map_some, Option.map_none, Option.some.injEq, List.cons_append, List.nil_append]
    rw [decide_eq_false (fun e => hl (by rw [e]))] at hR0
    exact hR0
/-- A window's state, and a take. -/
def tk (s : Int × Nat) (n : Int) : Int × Nat := if mayC s.1 s.2 n = 0 then (max s.1 n, takeV s.1 s.2 n) else s
def WOk (s : Int × Nat) : Prop := 0 ≤ s.1 ∧ s.1 ≤ 65535 ∧ s.2 < 18446744073709551616
theorem WOk.tk {s : Int × Nat} (h : WOk s) (n : Int) : WOk (tk s n) := by
  unfold Go.Proofs.Ytechabbdobbooaa.tk
  split
  · rename_i hm
    obtain ⟨h1, h2, h3⟩ := mayC_zero hm
    obtain ⟨a, b, c⟩ := h
    exact ⟨by simp only; omega, by simp only; omega, takeV_lt c h3⟩
  · exact h
/-- A take, whatever it answers. -/
theorem Take_all (b : Nat) (n : Int) (s : Int × Nat) (w : World) (R : Ending → World → Prop) (hs : WOk s) (hw : isWin w b s.1 s.2)
    (hR : ∀ w', isWin w' b (tk s n).1 (tk s n).2 → Mod [b] w w' → R (.returned (.int .i64 (mayC s.1 s.2 n))) w') :
    Calls Try.prog 10 #[.pointer (some ⟨b, 0, none⟩), .int .i64 n] w R := by
  refine Take_cps b n s.1 s.2 w R hs.1 hs.2.1 hs.2.2 hw (fun h m => ?_) (fun h w' h1 h2 => ?_)
  · unfold tk at hR
    rw [if_neg h] at hR
    exact hR _ hw ((Mod.refl _ _).drewN m)
  · unfold tk at hR
    rw [if_pos h] at hR
    rw [h] at hR
    exact hR w' h1 h2
def aliveN : List Int := [3, 1, 3, 70, 6, 7]
def aliveS (k : Nat) : Int × Nat := (aliveN.take k).foldl tk (0, 0)
theorem aliveOk (k : Nat) : WOk (aliveS k) := by
  have : ∀ (l : List Int) (s : Int × Nat), WOk s → WOk (l.foldl tk s) := by
    intro l
    induction l with
    | nil => intro s h; exact h
    | cons x l ih => intro s h; exact ih _ (h.tk x)
  exact this _ _ ⟨by decide, by decide, by decide⟩
set_option maxRecDepth 20000 in
set_option maxHeartbeats 2000000 in
theorem alive_cps (w : World) (R : Ending → World → Prop) (hR : ∀ w', Mod [] w w' → R (.returned (.bool true)) w') : Calls Try.prog 7 #[] w R := by
  refine calls_go 4000 okT Try.func7 rfl (rs := [.tmp 0]) rfl Try.ntmps7 (args := []) ?_
  simp (config := { maxSteps := 1000000 }) (disch := first | omega | (simp only [sizeAlloc, sizeDrew, sizeSet, sizePut]; omega) | fail) only [GS1, GS2, GS3, GS4, GS5, GS6, GS7, GS8, GS9, GS10, TT_eq, TTl, Nat.reduceAdd, Nat.reduceMul, Nat.reduceSub, Nat.reduceDiv, Nat.reduceMod, Nat.reducePow, Nat.reduceEqDiff, ↓reduceIte, reduceCtorEq, true_and, and_true, and_self, false_and, and_false, Int.reduceToNat, Int.reduceAdd, Int.reduceSub, Int.reduceMul, cond_true, cond_false, List.toList_toArray, Option.map_some, Option.map_none, Option.some.injEq, List.cons_append, List.nil_append]
  refine ⟨fok8, New_cps _ _ fun hw => .inl ⟨_, rfl, hold_ops okT (rs := [.tmp 0]) rfl ?_⟩⟩
  simp (config := { maxSteps := 1000000 }) (disch := first | omega | (simp only [sizeAlloc, sizeDrew, sizeSet, sizePut]; omega) | fail) only [GS1, GS2, GS3, GS4, GS5, GS6, GS7, GS8, GS9, GS10, TT_eq, TTl, Nat.reduceAdd, Nat.reduceMul, Nat.reduceSub, Nat.reduceDiv, Nat.reduceMod, Nat.reducePow, Nat.reduceEqDiff, ↓reduceIte, reduceCtorEq, true_and, and_true, and_self, false_and, and_false, Int.reduceToNat, Int.reduceAdd, Int.reduceSub, Int.reduceMul, cond_true, cond_false, List.toList_toArray, Option.map_some, Option.map_none, Option.some.injEq, List.cons_append, List.nil_append]
  have hM0 : Mod [] w (((w.alloc (Obj.cells #[.int .i64 0, .int .u64 0] 59)).alloc (Obj.cells #[.int .i64 0, .int .i64 0, .int .i64 9, .int .i64 0, .int .i64 180, .int .i64 0] 28)).alloc (Obj.cells #[.int .i64 3, .int .i64 1, .int .i64 3, .int .i64 70, .int .i64 6, .int .i64 7] 3)) := (((Mod.refl _ _).alloc _).alloc _).alloc _
  have k0 : isWin (((w.alloc (Obj.cells #[.int .i64 0, .int .u64 0] 59)).alloc (Obj.cells #[.int .i64 0, .int .i64 0, .int .i64 9, .int .i64 0, .int .i64 180, .int .i64 0] 28)).alloc (Obj.cells #[.int .i64 3, .int .i64 1, .int .i64 3, .int .i64 70, .int .i64 6, .int .i64 7] 3)) w.heap.size 0 0 := heapAlloc (heapAlloc hw)
  have k1 : (((w.alloc (Obj.cells #[.int .i64 0, .int .u64 0] 59)).alloc (Obj.cells #[.int .i64 0, .int .i64 0, .int .i64 9, .int .i64 0, .int .i64 180, .int .i64 0] 28)).alloc (Obj.cells #[.int .i64 3, .int .i64 1, .int .i64 3, .int .i64 70, .int .i64 6, .int .i64 7] 3)).heap[w.heap.size + 1]? = _ := heapAlloc (heapAe (by simp))
  have k2 : (((w.alloc (Obj.cells #[.int .i64 0, .int .u64 0] 59)).alloc (Obj.cells #[.int .i64 0, .int .i64 0, .int .i64 9, .int .i64 0, .int .i64 180, .int .i64 0] 28)).alloc (Obj.cells #[.int .i64 3, .int .i64 1, .int .i64 3, .int .i64 70, .int .i64 6, .int .i64 7] 3)).heap[w.heap.size + 2]? = _ := heapAe (by simp)
  generalize ((w.alloc (Obj.cells #[.int .i64 0, .int .u64 0] 59)).alloc (Obj.cells #[.int .i64 0, .int .i64 0, .int .i64 9, .int .i64 0, .int .i64 180, .int .i64 0] 28)).alloc (Obj.cells #[.int .i64 3, .int .i64 1, .int .i64 3, .int .i64 70, .int .i64 6, .int .i64 7] 3) = w1 at hM0 k0 k1 k2 ⊢
  refine hold_loop okT (rs := [.tmp 0]) rfl [11] [0, 3, 4, 12, 13, 14, 15, 16, 17, 18, 19, 20, 21, 22, 23, 24] (fun vs w' => ∃ k : Nat, k ≤ 6 ∧ vs = [.int .i64 k] ∧ isWin w' w.heap.size (aliveS k).1 (aliveS k).2 ∧ Mod [w.heap.size] w1 w') (fun vs _ => match vs with | [.int _ i] => 6 - i.toNat | _ => 0) (by kernel_rfl) ⟨0, by omega, rfl, k0, Mod.refl _ _⟩ ?_
  rintro vs w' J ⟨k, hk, rfl, hw', hM⟩
  have g1 := hM.get k1 (by simp <;> omega)
  have g2 := hM.get k2 (by simp <;> omega)
  rcases k with _ | _ | _ | _ | _ | _ | _ | k
  · have hm : mayC (aliveS 0).1 (aliveS 0).2 3 = 0 := by decide
    simp (config := { maxSteps := 1000000 }) (disch := first | omega | (simp only [sizeAlloc, sizeDrew, sizeSet, sizePut]; omega) | fail) only [GS1, GS2, GS3, GS4, GS5, GS6, GS7, GS8, GS9, GS10, TT_eq, TTl, Nat.reduceAdd, Nat.reduceMul, Nat.reduceSub, Nat.reduceDiv, Nat.reduceMod, Nat.reducePow, Nat.reduceEqDiff, ↓reduceIte, reduceCtorEq, true_and, and_true, and_self, false_and, and_false, Int.reduceToNat, Int.reduceAdd, Int.reduceSub, Int.reduceMul, cond_true, cond_false, List.toList_toArray, Option.map_some, Option.map_none, Option.some.injEq, List.cons_append, List.nil_append, cellOf g2]
    refine hold_draw okT (rs := [.tmp 0]) rfl [0, 0, 3, 0, 0, 24, 56, 127] [0, 1, 3, 4, 5, 6, 2, 7] (by kernel_rfl) (by kernel_rfl) ?_
    simp (config := { maxSteps := 1000000 }) (disch := first | omega | (simp only [sizeAlloc, sizeDrew, sizeSet, sizePut]; omega) | fail) only [GS1, GS2, GS3, GS4, GS5, GS6, GS7, GS8, GS9, GS10, TT_eq, TTl, Nat.reduceAdd, Nat.reduceMul, Nat.reduceSub, Nat.reduceDiv, Nat.reduceMod, Nat.reducePow, Nat.reduceEqDiff, ↓reduceIte, reduceCtorEq, true_and, and_true, and_self, false_and, and_false, Int.reduceToNat, Int.reduceAdd, Int.reduceSub, Int.reduceMul, cond_true, cond_false, List.toList_toArray, Option.map_some, Option.map_none, Option.some.injEq, List.cons_append, List.nil_append, cellOf g1]
    refine ⟨fok10, Take_all w.heap.size _ (aliveS 0) _ _ (aliveOk 0) hw' fun w2 h2 hM2 => .inl ⟨_, rfl, (cellOf (hM2.get g1 (by simp <;> omega))).trans rfl, hold_dops okT (rs := [.tmp 0]) rfl ?_⟩⟩
    rw [hm]
    simp (config := { maxSteps := 1000000 }) (disch := first | omega | (simp only [sizeAlloc, sizeDrew, sizeSet, sizePut]; omega) | fail) only [GS1, GS2, GS3, GS4, GS5, GS6, GS7, GS8, GS9, GS10, TT_eq, TTl, Nat.reduceAdd, Nat.reduceMul, Nat.reduceSub, Nat.reduceDiv, Nat.reduceMod, Nat.reducePow, Nat.reduceEqDiff, ↓reduceIte, reduceCtorEq, true_and, and_true, and_self, false_and, and_false, Int.reduceToNat, Int.reduceAdd, Int.reduceSub, Int.reduceMul, cond_true, cond_false, List.toList_toArray, Option.map_some, Option.map_none, Option.some.injEq, List.cons_append, List.nil_append]
    exact ⟨⟨1, by omega, rfl, h2, (hM.drewN 1).trans hM2 (by simp <;> omega)⟩, by omega⟩
  · have hm : mayC (aliveS 1).1 (aliveS 1).2 1 = 0 := by decide
    simp (config := { maxSteps := 1000000 }) (disch := first | omega | (simp only [sizeAlloc, sizeDrew, sizeSet, sizePut]; omega) | fail) only [GS1, GS2, GS3, GS4, GS5, GS6, GS7, GS8, GS9, GS10, TT_eq, TTl, Nat.reduceAdd, Nat.reduceMul, Nat.reduceSub, Nat.reduceDiv, Nat.reduceMod, Nat.reducePow, Nat.reduceEqDiff, ↓reduceIte, reduceCtorEq, true_and, and_true, and_self, false_and, and_false, Int.reduceToNat, Int.reduceAdd, Int.reduceSub, Int.reduceMul, cond_true, cond_false, List.toList_toArray, Option.map_some, Option.map_none, Option.some.injEq, List.cons_append, List.nil_append, cellOf g2]
    refine hold_draw okT (rs := [.tmp 0]) rfl [0, 0, 3, 0, 0, 24, 56, 127] [0, 1, 3, 4, 5, 6, 2, 7] (by kernel_rfl) (by kernel_rfl) ?_
    simp (config := { maxSteps := 1000000 }) (disch := first | omega | (simp only [sizeAlloc, sizeDrew, sizeSet, sizePut]; omega) | fail) only [GS1, GS2, GS3, GS4, GS5, GS6, GS7, GS8, GS9, GS10, TT_eq, TTl, Nat.reduceAdd, Nat.reduceMul, Nat.reduceSub, Nat.reduceDiv, Nat.reduceMod, Nat.reducePow, Nat.reduceEqDiff, ↓reduceIte, reduceCtorEq, true_and, and_true, and_self, false_and, and_false, Int.reduceToNat, Int.reduceAdd, Int.reduceSub, Int.reduceMul, cond_true, cond_false, List.toList_toArray, Option.map_some, Option.map_none, Option.some.injEq, List.cons_append, List.nil_append, cellOf g1]
    refine ⟨fok10, Take_all w.heap.size _ (aliveS 1) _ _ (aliveOk 1) hw' fun w2 h2 hM2 => .inl ⟨_, rfl, (cellOf (hM2.get g1 (by simp <;> omega))).trans rfl, hold_dops okT (rs := [.tmp 0]) rfl ?_⟩⟩
    rw [hm]
    simp (config := { maxSteps := 1000000 }) (disch := first | omega | (simp only [sizeAlloc, sizeDrew, sizeSet, sizePut]; omega) | fail) only [GS1, GS2, GS3, GS4, GS5, GS6, GS7, GS8, GS9, GS10, TT_eq, TTl, Nat.reduceAdd, Nat.reduceMul, Nat.reduceSub, Nat.reduceDiv, Nat.reduceMod, Nat.reducePow, Nat.reduceEqDiff, ↓reduceIte, reduceCtorEq, true_and, and_true, and_self, false_and, and_false, Int.reduceToNat, Int.reduceAdd, Int.reduceSub, Int.reduceMul, cond_true, cond_false, List.toList_toArray, Option.map_some, Option.map_none, Option.some.injEq, List.cons_append, List.nil_append]
    exact ⟨⟨2, by omega, rfl, h2, (hM.drewN 1).trans hM2 (by simp <;> omega)⟩, by omega⟩
  · have hm : mayC (aliveS 2).1 (aliveS 2).2 3 = 9 := by decide
    simp (config := { maxSteps := 1000000 }) (disch := first | omega | (simp only [sizeAlloc, sizeDrew, sizeSet, sizePut]; omega) | fail) only [GS1, GS2, GS3, GS4, GS5, GS6, GS7, GS8, GS9, GS10, TT_eq, TTl, Nat.reduceAdd, Nat.reduceMul, Nat.reduceSub, Nat.reduceDiv, Nat.reduceMod, Nat.reducePow, Nat.reduceEqDiff, ↓reduceIte, reduceCtorEq, true_and, and_true, and_self, false_and, and_false, Int.reduceToNat, Int.reduceAdd, Int.reduceSub, Int.reduceMul, cond_true, cond_false, List.toList_toArray, Option.map_some, Option.map_none, Option.some.injEq, List.cons_append, List.nil_append, cellOf g2]
    refine hold_draw okT (rs := [.tmp 0]) rfl [0, 0, 3, 0, 0, 24, 56, 127] [0, 1, 3, 4, 5, 6, 2, 7] (by kernel_rfl) (by kernel_rfl) ?_
    simp (config := { maxSteps := 1000000 }) (disch := first | omega | (simp only [sizeAlloc, sizeDrew, sizeSet, sizePut]; omega) | fail) only [GS1, GS2, GS3, GS4, GS5, GS6, GS7, GS8, GS9, GS10, TT_eq, TTl, Nat.reduceAdd, Nat.reduceMul, Nat.reduceSub, Nat.reduceDiv, Nat.reduceMod, Nat.reducePow, Nat.reduceEqDiff, ↓reduceIte, reduceCtorEq, true_and, and_true, and_self, false_and, and_false, Int.reduceToNat, Int.reduceAdd, Int.reduceSub, Int.reduceMul, cond_true, cond_false, List.toList_toArray, Option.map_some, Option.map_none, Option.some.injEq, List.cons_append, List.nil_append, cellOf g1]
    refine ⟨fok10, Take_all w.heap.size _ (aliveS 2) _ _ (aliveOk 2) hw' fun w2 h2 hM2 => .inl ⟨_, rfl, (cellOf (hM2.get g1 (by simp <;> omega))).trans rfl, hold_dops okT (rs := [.tmp 0]) rfl ?_⟩⟩
    rw [hm]
    simp (config := { maxSteps := 1000000 }) (disch := first | omega | (simp only [sizeAlloc, sizeDrew, sizeSet, sizePut]; omega) | fail) only [GS1, GS2, GS3, GS4, GS5, GS6, GS7, GS8, GS9, GS10, TT_eq, TTl, Nat.reduceAdd, Nat.reduceMul, Nat.reduceSub, Nat.reduceDiv, Nat.reduceMod, Nat.reducePow, Nat.reduceEqDiff, ↓reduceIte, reduceCtorEq, true_and, and_true, and_self, false_and, and_false, Int.reduceToNat, Int.reduceAdd, Int.reduceSub, Int.reduceMul, cond_true, cond_false, List.toList_toArray, Option.map_some, Option.map_none, Option.some.injEq, List.cons_append, List.nil_append]
    exact ⟨⟨3, by omega, rfl, h2, (hM.drewN 1).trans hM2 (by simp <;> omega)⟩, by omega⟩
  · have hm : mayC (aliveS 3).1 (aliveS 3).2 70 = 0 := by decide
    simp (config := { maxSteps := 1000000 }) (disch := first | omega | (simp only [sizeAlloc, sizeDrew, sizeSet, sizePut]; omega) | fail) only [GS1, GS2, GS3, GS4, GS5, GS6, GS7, GS8, GS9, GS10, TT_eq, TTl, Nat.reduceAdd, Nat.reduceMul, Nat.reduceSub, Nat.reduceDiv, Nat.reduceMod, Nat.reducePow, Nat.reduceEqDiff, ↓reduceIte, reduceCtorEq, true_and, and_true, and_self, false_and, and_false, Int.reduceToNat, Int.reduceAdd, Int.reduceSub, Int.reduceMul, cond_true, cond_false, List.toList_toArray, Option.map_some, Option.map_none, Option.some.injEq, List.cons_append, List.nil_append, cellOf g2]
    refine hold_draw okT (rs := [.tmp 0]) rfl [0, 0, 3, 0, 0, 24, 56, 127] [0, 1, 3, 4, 5, 6, 2, 7] (by kernel_rfl) (by kernel_rfl) ?_
    simp (config := { maxSteps := 1000000 }) (disch := first | omega | (simp only [sizeAlloc, sizeDrew, sizeSet, sizePut]; omega) | fail) only [GS1, GS2, GS3, GS4, GS5, GS6, GS7, GS8, GS9, GS10, TT_eq, TTl, Nat.reduceAdd, Nat.reduceMul, Nat.reduceSub, Nat.reduceDiv, Nat.reduceMod, Nat.reducePow, Nat.reduceEqDiff, ↓reduceIte, reduceCtorEq, true_and, and_true, and_self, false_and, and_false, Int.reduceToNat, Int.reduceAdd, Int.reduceSub, Int.reduceMul, cond_true, cond_false, List.toList_toArray, Option.map_some, Option.map_none, Option.some.injEq, List.cons_append, List.nil_append, cellOf g1]
    refine ⟨fok10, Take_all w.heap.size _ (aliveS 3) _ _ (aliveOk 3) hw' fun w2 h2 hM2 => .inl ⟨_, rfl, (cellOf (hM2.get g1 (by simp <;> omega))).trans rfl, hold_dops okT (rs := [.tmp 0]) rfl ?_⟩⟩
    rw [hm]
    simp (config := { maxSteps := 1000000 }) (disch := first | omega | (simp only [sizeAlloc, sizeDrew, sizeSet, sizePut]; omega) | fail) only [GS1, GS2, GS3, GS4, GS5, GS6, GS7, GS8, GS9, GS10, TT_eq, TTl, Nat.reduceAdd, Nat.reduceMul, Nat.reduceSub, Nat.reduceDiv, Nat.reduceMod, Nat.reducePow, Nat.reduceEqDiff, ↓reduceIte, reduceCtorEq, true_and, and_true, and_self, false_and, and_false, Int.reduceToNat, Int.reduceAdd, Int.reduceSub, Int.reduceMul, cond_true, cond_false, List.toList_toArray, Option.map_some, Option.map_none, Option.some.injEq, List.cons_append, List.nil_append]
    exact ⟨⟨4, by omega, rfl, h2, (hM.drewN 1).trans hM2 (by simp <;> omega)⟩, by omega⟩
  · have hm : mayC (aliveS 4).1 (aliveS 4).2 6 = 180 := by decide
    simp (config := { maxSteps := 1000000 }) (disch := first | omega | (simp only [sizeAlloc, sizeDrew, sizeSet, sizePut]; omega) | fail) only [GS1, GS2, GS3, GS4, GS5, GS6, GS7, GS8, GS9, GS10, TT_eq, TTl, Nat.reduceAdd, Nat.reduceMul, Nat.reduceSub, Nat.reduceDiv, Nat.reduceMod, Nat.reducePow, Nat.reduceEqDiff, ↓reduceIte, reduceCtorEq, true_and, and_true, and_self, false_and, and_false, Int.reduceToNat, Int.reduceAdd, Int.reduceSub, Int.reduceMul, cond_true, cond_false, List.toList_toArray, Option.map_some, Option.map_none, Option.some.injEq, List.cons_append, List.nil_append, cellOf g2]
    refine hold_draw okT (rs := [.tmp 0]) rfl [0, 0, 3, 0, 0, 24, 56, 127] [0, 1, 3, 4, 5, 6, 2, 7] (by kernel_rfl) (by kernel_rfl) ?_
    simp (config := { maxSteps := 1000000 }) (disch := first | omega | (simp only [sizeAlloc, sizeDrew, sizeSet, sizePut]; omega) | fail) only [GS1, GS2, GS3, GS4, GS5, GS6, GS7, GS8, GS9, GS10, TT_eq, TTl, Nat.reduceAdd, Nat.reduceMul, Nat.reduceSub, Nat.reduceDiv, Nat.reduceMod, Nat.reducePow, Nat.reduceEqDiff, ↓reduceIte, reduceCtorEq, true_and, and_true, and_self, false_and, and_false, Int.reduceToNat, Int.reduceAdd, Int.reduceSub, Int.reduceMul, cond_true, cond_false, List.toList_toArray, Option.map_some, Option.map_none, Option.some.injEq, List.cons_append, List.nil_append, cellOf g1]
    refine ⟨fok10, Take_all w.heap.size _ (aliveS 4) _ _ (aliveOk 4) hw' fun w2 h2 hM2 => .inl ⟨_, rfl, (cellOf (hM2.get g1 (by simp <;> omega))).trans rfl, hold_dops okT (rs := [.tmp 0]) rfl ?_⟩⟩
    rw [hm]
    simp (config := { maxSteps := 1000000 }) (disch := first | omega | (simp only [sizeAlloc, sizeDrew, sizeSet, sizePut]; omega) | fail) only [GS1, GS2, GS3, GS4, GS5, GS6, GS7, GS8, GS9, GS10, TT_eq, TTl, Nat.reduceAdd, Nat.reduceMul, Nat.reduceSub, Nat.reduceDiv, Nat.reduceMod, Nat.reducePow, Nat.reduceEqDiff, ↓reduceIte, reduceCtorEq, true_and, and_true, and_self, false_and, and_false, Int.reduceToNat, Int.reduceAdd, Int.reduceSub, Int.reduceMul, cond_true, cond_false, List.toList_toArray, Option.map_some, Option.map_none, Option.some.injEq, List.cons_append, List.nil_append]
    exact ⟨⟨5, by omega, rfl, h2, (hM.drewN 1).trans hM2 (by simp <;> omega)⟩, by omega⟩
  · have hm : mayC (aliveS 5).1 (aliveS 5).2 7 = 0 := by decide
    simp (config := { maxSteps := 1000000 }) (disch := first | omega | (simp only [sizeAlloc, sizeDrew, sizeSet, sizePut]; omega) | fail) only [GS1, GS2, GS3, GS4, GS5, GS6, GS7, GS8, GS9, GS10, TT_eq, TTl, Nat.reduceAdd, Nat.reduceMul, Nat.reduceSub, Nat.reduceDiv, Nat.reduceMod, Nat.reducePow, Nat.reduceEqDiff, ↓reduceIte, reduceCtorEq, true_and, and_true, and_self, false_and, and_false, Int.reduceToNat, Int.reduceAdd, Int.reduceSub, Int.reduceMul, cond_true, cond_false, List.toList_toArray, Option.map_some, Option.map_none, Option.some.injEq, List.cons_append, List.nil_append, cellOf g2]
    refine hold_draw okT (rs := [.tmp 0]) rfl [0, 0, 3, 0, 0, 24, 56, 127] [0, 1, 3, 4, 5, 6, 2, 7] (by kernel_rfl) (by kernel_rfl) ?_
    simp (config := { maxSteps := 1000000 }) (disch := first | omega | (simp only [sizeAlloc, sizeDrew, sizeSet, sizePut]; omega) | fail) only [GS1, GS2, GS3, GS4, GS5, GS6, GS7, GS8, GS9, GS10, TT_eq, TTl, Nat.reduceAdd, Nat.reduceMul, Nat.reduceSub, Nat.reduceDiv, Nat.reduceMod, Nat.reducePow, Nat.reduceEqDiff, ↓reduceIte, reduceCtorEq, true_and, and_true, and_self, false_and, and_false, Int.reduceToNat, Int.reduceAdd, Int.reduceSub, Int.reduceMul, cond_true, cond_false, List.toList_toArray, Option.map_some, Option.map_none, Option.some.injEq, List.cons_append, List.nil_append, cellOf g1]
    refine ⟨fok10, Take_all w.heap.size _ (aliveS 5) _ _ (aliveOk 5) hw' fun w2 h2 hM2 => .inl ⟨_, rfl, (cellOf (hM2.get g1 (by simp <;> omega))).trans rfl, hold_dops okT (rs := [.tmp 0]) rfl ?_⟩⟩
    rw [hm]
    simp (config := { maxSteps := 1000000 }) (disch := first | omega | (simp only [sizeAlloc, sizeDrew, sizeSet, sizePut]; omega) | fail) only [GS1, GS2, GS3, GS4, GS5, GS6, GS7, GS8, GS9, GS10, TT_eq, TTl, Nat.reduceAdd, Nat.reduceMul, Nat.reduceSub, Nat.reduceDiv, Nat.reduceMod, Nat.reducePow, Nat.reduceEqDiff, ↓reduceIte, reduceCtorEq, true_and, and_true, and_self, false_and, and_false, Int.reduceToNat, Int.reduceAdd, Int.reduceSub, Int.reduceMul, cond_true, cond_false, List.toList_toArray, Option.map_some, Option.map_none, Option.some.injEq, List.cons_append, List.nil_append]
    exact ⟨⟨6, by omega, rfl, h2, (hM.drewN 1).trans hM2 (by simp <;> omega)⟩, by omega⟩
  · have hT : (aliveS 6).1 = 70 := by decide
    have hL : takenL (aliveS 6).1 (aliveS 6).2 64 = [7, 70] := by decide
    have hO := aliveOk 6
    simp (config := { maxSteps := 1000000 }) (disch := first | omega | (simp only [sizeAlloc, sizeDrew, sizeSet, sizePut]; omega) | fail) only [GS1, GS2, GS3, GS4, GS5, GS6, GS7, GS8, GS9, GS10, TT_eq, TTl, Nat.reduceAdd, Nat.reduceMul, Nat.reduceSub, Nat.reduceDiv, Nat.reduceMod, Nat.reducePow, Nat.reduceEqDiff, ↓reduceIte, reduceCtorEq, true_and, and_true, and_self, false_and, and_false, Int.reduceToNat, Int.reduceAdd, Int.reduceSub, Int.reduceMul, cond_true, cond_false, List.toList_toArray, Option.map_some, Option.map_none, Option.some.injEq, List.cons_append, List.nil_append]
    refine ⟨fok9, Top_cps _ _ _ _ _ hw' (.inl ⟨_, rfl, hold_ops okT (rs := [.tmp 0]) rfl ?_⟩)⟩
    rw [hT]
    simp (config := { maxSteps := 1000000 }) (disch := first | omega | (simp only [sizeAlloc, sizeDrew, sizeSet, sizePut]; omega) | fail) only [GS1, GS2, GS3, GS4, GS5, GS6, GS7, GS8, GS9, GS10, TT_eq, TTl, Nat.reduceAdd, Nat.reduceMul, Nat.reduceSub, Nat.reduceDiv, Nat.reduceMod, Nat.reducePow, Nat.reduceEqDiff, ↓reduceIte, reduceCtorEq, true_and, and_true, and_self, false_and, and_false, Int.reduceToNat, Int.reduceAdd, Int.reduceSub, Int.reduceMul, cond_true, cond_false, List.toList_toArray, Option.map_some, Option.map_none, Option.some.injEq, List.cons_append, List.nil_append]
    refine ⟨fok27, List_cps _ _ _ _ _ hO.1 hO.2.1 hO.2.2 hw' fun sv w2 hsv hM2 => .inl ⟨_, rfl, hold_ops okT (rs := [.tmp 0]) rfl ?_⟩⟩
    rw [hL] at hsv
    simp (config := { maxSteps := 1000000 }) (disch := first | omega | (simp only [sizeAlloc, sizeDrew, sizeSet, sizePut]; omega) | fail) only [GS1, GS2, GS3, GS4, GS5, GS6, GS7, GS8, GS9, GS10, TT_eq, TTl, Nat.reduceAdd, Nat.reduceMul, Nat.reduceSub, Nat.reduceDiv, Nat.reduceMod, Nat.reducePow, Nat.reduceEqDiff, ↓reduceIte, reduceCtorEq, true_and, and_true, and_self, false_and, and_false, Int.reduceToNat, Int.reduceAdd, Int.reduceSub, Int.reduceMul, cond_true, cond_false, List.toList_toArray, Option.map_some, Option.map_none, Option.some.injEq, List.cons_append, List.nil_append]
    refine ⟨fok24, SameInts_cps _ _ [7, 70] [7, 70] _ _ (by decide) ((Rd.own hsv).mod ((Mod.refl [] _).alloc _) (by simp)) ?_ fun n => .inl ⟨_, rfl, hold_ops okT (rs := [.tmp 0]) rfl ?_⟩⟩
    · exact Rd.lit rfl
    · simp (config := { maxSteps := 1000000 }) (disch := first | omega | (simp only [sizeAlloc, sizeDrew, sizeSet, sizePut]; omega) | fail) only [GS1, GS2, GS3, GS4, GS5, GS6, GS7, GS8, GS9, GS10, TT_eq, TTl, Nat.reduceAdd, Nat.reduceMul, Nat.reduceSub, Nat.reduceDiv, Nat.reduceMod, Nat.reducePow, Nat.reduceEqDiff, ↓reduceIte, reduceCtorEq, true_and, and_true, and_self, false_and, and_false, Int.reduceToNat, Int.reduceAdd, Int.reduceSub, Int.reduceMul, cond_true, cond_false, List.toList_toArray, Option.map_some, Option.map_none, Option.some.injEq, List.cons_append, List.nil_append]
      exact hR _ ((((hM0.trans hM (by simp <;> omega)).trans hM2 (by simp <;> omega)).alloc _).drewN n)
  · omega
end Go.Proofs.Ytechabbdobbooaa
