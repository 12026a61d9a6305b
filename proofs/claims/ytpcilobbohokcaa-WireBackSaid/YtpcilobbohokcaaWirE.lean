/-
  wire: the prepare's reader (walk).
-/
import Derived.Test.YtpcilobbohokcaaWirD
set_option linter.unusedSimpArgs false
set_option linter.unusedVariables false
namespace Go.Proofs.Ytpcilobbohokcaa
open Go Go.Wk Go.RowKit
attribute [local irreducible] go Hold
open Go.Lib
set_option maxRecDepth 20000 in
set_option maxHeartbeats 4000000 in
theorem wK3_cps (m : Msg) (sa : Value) (p : Nat) (t0 t1 t2 : List UInt8) (rv : Value) (z0 : t0.length ≤ maxLen) (z1 : t1.length ≤ maxLen) (w : World) (hh : w.heap[p]? = some (.cells (msgC m sa).toArray 42 (0, 0))) (hr : Rd w 1 rv 3 ([t0, t1, t2].map strV)) (hpr : ∀ b o c, rv = .slice (some ⟨b, o, none⟩) 3 c → b ≠ p) (R : Ending → World → Prop)
    (h1 : ∀ v l sv w', numT t0 = some v → unmbS m.tx.1 t1 = some l → w'.heap[p]? = some (.cells (msgC { m with aud := (v : Int), mbs := l, body := t2 } sv).toArray 42 (0, 0)) → w'.ownsRow w.heap.size 59 2 sv l.length (l.flatMap mbC) → Mod [p] w w' → R (.returned (.tuple #[])) w')
    (hN : (numT t0 = none ∨ unmbS m.tx.1 t1 = none) → ∀ w', Mod [] w w' → R (.panicked wnoneV) w') : Calls Try.prog 99 #[.pointer (some ⟨p, 0, none⟩), rv] w R := by
  obtain ⟨k, ⟨a, b, c⟩, aud, mbs, body, yes, tag⟩ := m
  unfold msgC at hh h1
  simp only at hh h1 hN
  have hp := (Array.getElem?_eq_some_iff.1 hh).1
  obtain ⟨b2, o2, c2, e2, _, g2⟩ := hr.at (by simp) (by simp)
  have hbp := hpr _ _ _ e2
  have f0 : w.cell? ⟨b2, o2, none⟩ = some (.string ⟨t0.toArray⟩) := g2 0 _ rfl
  have f1 : w.cell? ⟨b2, o2 + 1, none⟩ = some (.string ⟨t1.toArray⟩) := g2 1 _ rfl
  have f2 : w.cell? ⟨b2, o2 + 2, none⟩ = some (.string ⟨t2.toArray⟩) := g2 2 _ rfl
  subst e2
  refine calls_go 4000 okT Try.func99 rfl (rs := []) rfl Try.ntmps99 (args := [.pointer (some ⟨p, 0, none⟩), .slice (some ⟨b2, o2, none⟩) 3 c2]) ?_
  simp (config := { maxSteps := 1000000 }) (disch := first | omega | (simp only [sizeAlloc, sizeDrew, sizeSet, sizePut] <;> omega) | fail) only [GS1, GS2, GS3, GS4, GS5, GS6, GS7, GS8, GS9, GS10, GS11, TT_eq, TTl, Nat.reduceAdd, Nat.reduceMul, Nat.reduceSub, Nat.reduceDiv, Nat.reduceMod, Nat.reducePow, Nat.reduceEqDiff, ↓reduceIte, reduceCtorEq, true_and, and_true, and_self, false_and, and_false, Int.reduceToNat, Int.reduceAdd, Int.reduceSub, Int.reduceMul, cond_true, cond_false, List.toList_toArray, Option.map_some, Option.map_none, Option.some.injEq, List.cons_append, List.nil_append, List.length_cons, List.length_nil, List.getD_cons_zero, List.getD_cons_succ]
  refine hold_draw okT (rs := []) rfl [0, 0, 0, 0, 8, 24, 56, 0, 128, 384, 896, 0, 2048, 6144, 16376, 0, 32768, 98304, 262137, 524281, 1048569, 2097147, 4194299, 8388603, 16777215, 33554431, 67108863] [0, 1, 2, 3, 4, 5, 7, 8, 9, 10, 11, 12, 13, 15, 16, 17, 6, 14, 18, 19, 20, 21, 22, 23, 24, 25, 26] (by kernel_rfl) (by kernel_rfl) ?_
  have f0' : (w.drewN 1).cell? ⟨b2, o2, none⟩ = some (.string ⟨t0.toArray⟩) := f0
  have f1' : (w.drewN 1).cell? ⟨b2, o2 + 1, none⟩ = some (.string ⟨t1.toArray⟩) := f1
  have f2' : (w.drewN 1).cell? ⟨b2, o2 + 2, none⟩ = some (.string ⟨t2.toArray⟩) := f2
  have hh1 : (w.drewN 1).heap[p]? = _ := hh
  have hM1 := (Mod.refl [] w).drewN 1
  generalize w.drewN 1 = w1 at *
  have c1 := fun o => cellOf (o := o) hh1
  have x1 := fun o => frozenOf (o := o) hh1
  simp (config := { maxSteps := 1000000 }) (disch := first | omega | (simp only [sizeAlloc, sizeDrew, sizeSet, sizePut] <;> omega) | fail) only [GS1, GS2, GS3, GS4, GS5, GS6, GS7, GS8, GS9, GS10, GS11, TT_eq, TTl, Nat.reduceAdd, Nat.reduceMul, Nat.reduceSub, Nat.reduceDiv, Nat.reduceMod, Nat.reducePow, Nat.reduceEqDiff, ↓reduceIte, reduceCtorEq, true_and, and_true, and_self, false_and, and_false, Int.reduceToNat, Int.reduceAdd, Int.reduceSub, Int.reduceMul, cond_true, cond_false, List.toList_toArray, Option.map_some, Option.map_none, Option.some.injEq, List.cons_append, List.nil_append, List.length_cons, List.length_nil, List.getD_cons_zero, List.getD_cons_succ, c1, x1, f0', f1', f2']
  have hag : ∀ w' : World, Mod [] w1 w' → aggO (consO (w'.cell? ⟨p, 1, none⟩) (consO (w'.cell? ⟨p, 2, none⟩) (consO (w'.cell? ⟨p, 3, none⟩) (some [])))) = some (.agg #[.int .i64 a, .int .i64 b, .int .i64 c]) := by
    intro w' hm
    rw [cellM (show w1.cell? ⟨p, 1, none⟩ = some (.int .i64 a) from c1 1) hm, cellM (show w1.cell? ⟨p, 2, none⟩ = some (.int .i64 b) from c1 2) hm, cellM (show w1.cell? ⟨p, 3, none⟩ = some (.int .i64 c) from c1 3) hm]
    rfl
  refine ⟨fok100, wUnnum_cps t0 z0 _ _ (fun v w2 hv hM => .inl ⟨_, rfl, ⟨cellM f2' hM, cellM f1' hM, hag _ hM⟩, hold_dops okT (rs := []) rfl ?_⟩) (fun hv w2 hM => .inr ⟨_, rfl, fun fs' => hold_ex okT (rs := []) rfl ?_⟩)⟩
  · have f2'' := cellM f2' hM
    have hh2 := hM.get hh1 (by simp)
    have hM2 := hM1.trans hM (by simp)
    clear hag
    simp (config := { maxSteps := 1000000 }) (disch := first | omega | (simp only [sizeAlloc, sizeDrew, sizeSet, sizePut] <;> omega) | fail) only [GS1, GS2, GS3, GS4, GS5, GS6, GS7, GS8, GS9, GS10, GS11, TT_eq, TTl, Nat.reduceAdd, Nat.reduceMul, Nat.reduceSub, Nat.reduceDiv, Nat.reduceMod, Nat.reducePow, Nat.reduceEqDiff, ↓reduceIte, reduceCtorEq, true_and, and_true, and_self, false_and, and_false, Int.reduceToNat, Int.reduceAdd, Int.reduceSub, Int.reduceMul, cond_true, cond_false, List.toList_toArray, Option.map_some, Option.map_none, Option.some.injEq, List.cons_append, List.nil_append, List.length_cons, List.length_nil, List.getD_cons_zero, List.getD_cons_succ]
    refine ⟨fok101, wUnmembers_cps (a, b, c) t1 z1 _ _ (fun l sv w3 hl hown hM => .inl ⟨_, rfl, cellM f2'' hM, hold_dops okT (rs := []) rfl ?_⟩) (fun hl w3 hM => .inr ⟨_, rfl, fun fs' => hold_ex okT (rs := []) rfl ?_⟩)⟩
    · have hh3 := hM.get hh2 (by simp)
      have hM3 := hM2.trans hM (by simp)
      have c3 := fun o => cellOf (o := o) hh3
      have x3 := fun o => frozenOf (o := o) hh3
      have hsv := ownsRow_one hown
      simp (config := { maxSteps := 1000000 }) (disch := first | omega | (simp only [sizeAlloc, sizeDrew, sizeSet, sizePut] <;> omega) | fail) only [GS1, GS2, GS3, GS4, GS5, GS6, GS7, GS8, GS9, GS10, GS11, TT_eq, TTl, Nat.reduceAdd, Nat.reduceMul, Nat.reduceSub, Nat.reduceDiv, Nat.reduceMod, Nat.reducePow, Nat.reduceEqDiff, ↓reduceIte, reduceCtorEq, true_and, and_true, and_self, false_and, and_false, Int.reduceToNat, Int.reduceAdd, Int.reduceSub, Int.reduceMul, cond_true, cond_false, List.toList_toArray, Option.map_some, Option.map_none, Option.some.injEq, List.cons_append, List.nil_append, List.length_cons, List.length_nil, List.getD_cons_zero, List.getD_cons_succ, c3, x3, cellsL_one hsv, hsv]
      refine h1 v l sv _ hv hl ?_ (ownsRow_mod (S := [p]) (ownsRow_base hown (hM2.size)) (((((Mod.refl [p] w3).set (p := ⟨p, 4, none⟩) (.inl (by simp)) (.int .i64 v)).set (p := ⟨p, 5, none⟩) (.inl (by simp)) sv).set (p := ⟨p, 6, none⟩) (.inl (by simp)) (.string ⟨t2.toArray⟩))) (by simpa using hp)) ((((hM3.mono (by simp)).set (p := ⟨p, 4, none⟩) (.inl (by simp)) (.int .i64 v)).set (p := ⟨p, 5, none⟩) (.inl (by simp)) sv).set (p := ⟨p, 6, none⟩) (.inl (by simp)) (.string ⟨t2.toArray⟩))
      rw [heapSet (heapSet (heapSet hh3))]
      rfl
    · simp (config := { maxSteps := 1000000 }) (disch := first | omega | (simp only [sizeAlloc, sizeDrew, sizeSet, sizePut] <;> omega) | fail) only [GS1, GS2, GS3, GS4, GS5, GS6, GS7, GS8, GS9, GS10, GS11, TT_eq, TTl, Nat.reduceAdd, Nat.reduceMul, Nat.reduceSub, Nat.reduceDiv, Nat.reduceMod, Nat.reducePow, Nat.reduceEqDiff, ↓reduceIte, reduceCtorEq, true_and, and_true, and_self, false_and, and_false, Int.reduceToNat, Int.reduceAdd, Int.reduceSub, Int.reduceMul, cond_true, cond_false, List.toList_toArray, Option.map_some, Option.map_none, Option.some.injEq, List.cons_append, List.nil_append, List.length_cons, List.length_nil, List.getD_cons_zero, List.getD_cons_succ]
      exact hN (.inr hl) _ (hM2.trans hM (by simp))
  · simp (config := { maxSteps := 1000000 }) (disch := first | omega | (simp only [sizeAlloc, sizeDrew, sizeSet, sizePut] <;> omega) | fail) only [GS1, GS2, GS3, GS4, GS5, GS6, GS7, GS8, GS9, GS10, GS11, TT_eq, TTl, Nat.reduceAdd, Nat.reduceMul, Nat.reduceSub, Nat.reduceDiv, Nat.reduceMod, Nat.reducePow, Nat.reduceEqDiff, ↓reduceIte, reduceCtorEq, true_and, and_true, and_self, false_and, and_false, Int.reduceToNat, Int.reduceAdd, Int.reduceSub, Int.reduceMul, cond_true, cond_false, List.toList_toArray, Option.map_some, Option.map_none, Option.some.injEq, List.cons_append, List.nil_append, List.length_cons, List.length_nil, List.getD_cons_zero, List.getD_cons_succ]
    exact hN (.inl hv) _ (hM1.trans hM (by simp))
end Go.Proofs.Ytpcilobbohokcaa
