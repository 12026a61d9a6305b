/-
  term.Size, Depth (walks).
-/
import Derived.Test.YtfobkimmpiahjaaPlc3
set_option linter.unusedSimpArgs false
set_option linter.unusedVariables false
namespace Go.Proofs.Ytfobkimmpiahjaa
open Go Go.Wk Go.RowKit
attribute [local irreducible] go Hold
open Go.Lib
theorem places_cps (S : List UInt8) (w : World) (R : Ending → World → Prop)
    (hR : R (.returned (.func (.func 56) #[] #[.pointer (some ⟨w.heap.size, 0, none⟩)])) (w.alloc (.cells #[.string ⟨S.toArray⟩] 9))) :
    Calls Try.prog 41 #[.string ⟨S.toArray⟩] w R := by
  refine calls_go 4000 okT Try.func41 rfl (rs := [.tmp 2]) rfl Try.ntmps41 (args := [.string ⟨S.toArray⟩]) ?_
  simp (config := { maxSteps := 1000000 }) (disch := first | omega | (simp only [sizeAlloc, sizeDrew, sizeSet, sizePut] <;> omega) | fail) only [GS1, GS2, GS3, GS4, GS5, GS6, GS7, GS8, GS9, GS10, GS11, TT_eq, TTl, Nat.reduceAdd, Nat.reduceMul, Nat.reduceSub, Nat.reduceDiv, Nat.reduceMod, Nat.reducePow, Nat.reduceEqDiff, ↓reduceIte, reduceCtorEq, true_and, and_true, and_self, false_and, and_false, Int.reduceToNat, Int.reduceAdd, Int.reduceSub, Int.reduceMul, cond_true, cond_false, List.toList_toArray, Option.map_some, Option.map_none, Option.some.injEq, List.cons_append, List.nil_append, List.length_cons, List.length_nil, List.getD_cons_zero, List.getD_cons_succ]
  exact hR
def sizeS (s : List UInt8) : Nat := if checkS s = 0 then (placesS s).length else 0
theorem placesS_len (S : List UInt8) : (placesS S).length ≤ S.length := by
  have := List.length_filter_le (fun p : PL => decide (0 < p.2.2)) (atS S (walkS S 16 1 0).2.2)
  rw [atS_len] at this
  exact this
set_option maxRecDepth 20000 in
set_option maxHeartbeats 4000000 in
theorem tSize_cps (S : List UInt8) (hS : S.length ≤ maxLen) (w : World) (R : Ending → World → Prop) (hR : ∀ w', Mod [] w w' → R (.returned (.int .i64 (sizeS S))) w') :
    Calls Try.prog 30 #[.string ⟨S.toArray⟩] w R := by
  unfold sizeS at hR
  refine calls_go 4000 okT Try.func30 rfl (rs := [.cell 2 3]) rfl Try.ntmps30 (args := [.string ⟨S.toArray⟩]) ?_
  simp (config := { maxSteps := 1000000 }) (disch := first | omega | (simp only [sizeAlloc, sizeDrew, sizeSet, sizePut] <;> omega) | fail) only [GS1, GS2, GS3, GS4, GS5, GS6, GS7, GS8, GS9, GS10, GS11, TT_eq, TTl, Nat.reduceAdd, Nat.reduceMul, Nat.reduceSub, Nat.reduceDiv, Nat.reduceMod, Nat.reducePow, Nat.reduceEqDiff, ↓reduceIte, reduceCtorEq, true_and, and_true, and_self, false_and, and_false, Int.reduceToNat, Int.reduceAdd, Int.reduceSub, Int.reduceMul, cond_true, cond_false, List.toList_toArray, Option.map_some, Option.map_none, Option.some.injEq, List.cons_append, List.nil_append, List.length_cons, List.length_nil, List.getD_cons_zero, List.getD_cons_succ]
  have hN := heapNew (w := w) (o := .cells #[.int .i64 0] 3)
  have hM0 := (Mod.refl [] w).alloc (.cells #[.int .i64 0] 3)
  have hz0 : (w.alloc (.cells #[.int .i64 0] 3)).heap.size = w.heap.size + 1 := by simp only [sizeAlloc]
  generalize w.alloc (.cells #[.int .i64 0] 3) = w0 at hN hM0 hz0 ⊢
  refine ⟨fok40, tIs1_cps S hS w0 _ (by omega) _ fun w1 hM => .inl ⟨_, rfl, hold_ops okT (rs := [.cell 2 3]) rfl ?_⟩⟩
  have hM1 := ((Mod.refl [] w0).alloc _).trans hM (by simp)
  have hMw := hM0.trans hM1 (by simp)
  have hN1 := hM1.get hN (by simp)
  by_cases h : checkS S = 0
  · rw [decide_eq_true h]
    rw [if_pos h] at hR
    have hlen := placesS_len S
    have hc := check0 h
    simp (config := { maxSteps := 1000000 }) (disch := first | omega | (simp only [sizeAlloc, sizeDrew, sizeSet, sizePut] <;> omega) | fail) only [GS1, GS2, GS3, GS4, GS5, GS6, GS7, GS8, GS9, GS10, GS11, TT_eq, TTl, Nat.reduceAdd, Nat.reduceMul, Nat.reduceSub, Nat.reduceDiv, Nat.reduceMod, Nat.reducePow, Nat.reduceEqDiff, ↓reduceIte, reduceCtorEq, true_and, and_true, and_self, false_and, and_false, Int.reduceToNat, Int.reduceAdd, Int.reduceSub, Int.reduceMul, cond_true, cond_false, List.toList_toArray, Option.map_some, Option.map_none, Option.some.injEq, List.cons_append, List.nil_append, List.length_cons, List.length_nil, List.getD_cons_zero, List.getD_cons_succ]
    refine ⟨fok41, places_cps S _ _ (.inl ⟨_, rfl, hold_ops okT (rs := [.cell 2 3]) rfl ?_⟩)⟩
    have hbx := heapNew (w := w1) (o := .cells #[.string ⟨S.toArray⟩] 9)
    have hMx := (Mod.refl [] w1).alloc (.cells #[.string ⟨S.toArray⟩] 9)
    have hN2 := hMx.get hN1 (by simp)
    have hMw2 := hMw.trans hMx (by simp)
    generalize w1.heap.size = bx at hbx ⊢
    generalize w1.alloc (.cells #[.string ⟨S.toArray⟩] 9) = w2 at hbx hMx hN2 hMw2 ⊢
    simp (config := { maxSteps := 1000000 }) (disch := first | omega | (simp only [sizeAlloc, sizeDrew, sizeSet, sizePut] <;> omega) | fail) only [GS1, GS2, GS3, GS4, GS5, GS6, GS7, GS8, GS9, GS10, GS11, TT_eq, TTl, Nat.reduceAdd, Nat.reduceMul, Nat.reduceSub, Nat.reduceDiv, Nat.reduceMod, Nat.reducePow, Nat.reduceEqDiff, ↓reduceIte, reduceCtorEq, true_and, and_true, and_self, false_and, and_false, Int.reduceToNat, Int.reduceAdd, Int.reduceSub, Int.reduceMul, cond_true, cond_false, List.toList_toArray, Option.map_some, Option.map_none, Option.some.injEq, List.cons_append, List.nil_append, List.length_cons, List.length_nil, List.getD_cons_zero, List.getD_cons_succ]
    have hNl := ltOf hN2
    refine rangePl S h rfl rfl hbx [w.heap.size] (fun r w' => ∃ done, done ++ r = placesS S ∧ w'.heap[w.heap.size]? = some (.cells #[.int .i64 done.length] 3 (0, 0))) (fun _ => False) ⟨[], rfl, hN2⟩ (fun r w1 w2 ⟨d, h1, h2⟩ hc => ⟨d, h1, hc.cells _ _ _ _ h2⟩) (fun _ _ h _ => h) ?_ ?_ (fun _ _ h => h.elim)
    · rintro l fid D p r w3 K ⟨done, hd, hn⟩ hM3 hz hl hlp hcont -
      refine hold_code okT (rs := []) rfl ?_
      simp (config := { maxSteps := 1000000 }) (disch := first | omega | (simp only [sizeAlloc, sizeDrew, sizeSet, sizePut] <;> omega) | fail) only [GS1, GS2, GS3, GS4, GS5, GS6, GS7, GS8, GS9, GS10, GS11, TT_eq, TTl, Nat.reduceAdd, Nat.reduceMul, Nat.reduceSub, Nat.reduceDiv, Nat.reduceMod, Nat.reducePow, Nat.reduceEqDiff, ↓reduceIte, reduceCtorEq, true_and, and_true, and_self, false_and, and_false, Int.reduceToNat, Int.reduceAdd, Int.reduceSub, Int.reduceMul, cond_true, cond_false, List.toList_toArray, Option.map_some, Option.map_none, Option.some.injEq, List.cons_append, List.nil_append, List.length_cons, List.length_nil, List.getD_cons_zero, List.getD_cons_succ]
      refine ⟨rfl, rfl, _, hlp, rfl, hold_code okT (rs := []) rfl ?_⟩
      have hdl : done.length ≤ S.length := by
        have := congrArg List.length hd
        rw [List.length_append] at this; omega
      generalize hO : Obj.loop _ = o3
      generalize hW : w3.putObj l o3 = w4
      have hM4 : Mod [l] w3 w4 := by rw [← hW]; exact (Mod.refl _ _).put (.inl (by simp)) _
      have hn4 := hM4.get hn (by simp; omega)
      have hl4 : w4.heap[l]? = some o3 := by rw [← hW]; exact heapPe hlp
      rw [← hO] at hl4
      clear hO hW
      have c4 := cellOf (o := 0) hn4
      have f4 := frozenOf (o := 0) hn4
      simp (config := { maxSteps := 1000000 }) (disch := first | omega | (simp only [sizeAlloc, sizeDrew, sizeSet, sizePut] <;> omega) | fail) only [GS1, GS2, GS3, GS4, GS5, GS6, GS7, GS8, GS9, GS10, GS11, TT_eq, TTl, Nat.reduceAdd, Nat.reduceMul, Nat.reduceSub, Nat.reduceDiv, Nat.reduceMod, Nat.reducePow, Nat.reduceEqDiff, ↓reduceIte, reduceCtorEq, true_and, and_true, and_self, false_and, and_false, Int.reduceToNat, Int.reduceAdd, Int.reduceSub, Int.reduceMul, cond_true, cond_false, List.toList_toArray, Option.map_some, Option.map_none, Option.some.injEq, List.cons_append, List.nil_append, List.length_cons, List.length_nil, List.getD_cons_zero, List.getD_cons_succ, c4, f4]
      have hne : w.heap.size ≠ l := by omega
      refine hcont _ [w.heap.size] ((hM4.mono (by simp)).set (p := ⟨w.heap.size, 0, none⟩) (.inl (by simp)) _) ?_ (heapSetNe hl4 hne.symm) ⟨done ++ [p], by simpa using hd, ?_⟩
      · intro x hx
        simp only [List.mem_cons, List.not_mem_nil, or_false] at hx
        subst hx
        exact ⟨.inl (by simp), .inl ⟨_, _, _, hn, by decide⟩⟩
      · rw [List.length_append, List.length_cons, List.length_nil, Nat.zero_add, Int.natCast_add]; exact heapSet hn4
    · rintro w3 D ⟨done, hd, hn⟩ hM3 hD hdef
      rw [List.append_nil] at hd
      subst hd
      refine hold_ex okT (rs := [.cell 2 3]) rfl ?_
      have c3 := cellOf (o := 0) hn
      have f3 := frozenOf (o := 0) hn
      simp (config := { maxSteps := 1000000 }) (disch := first | omega | (simp only [sizeAlloc, sizeDrew, sizeSet, sizePut] <;> omega) | fail) only [GS1, GS2, GS3, GS4, GS5, GS6, GS7, GS8, GS9, GS10, GS11, TT_eq, TTl, Nat.reduceAdd, Nat.reduceMul, Nat.reduceSub, Nat.reduceDiv, Nat.reduceMod, Nat.reducePow, Nat.reduceEqDiff, ↓reduceIte, reduceCtorEq, true_and, and_true, and_self, false_and, and_false, Int.reduceToNat, Int.reduceAdd, Int.reduceSub, Int.reduceMul, cond_true, cond_false, List.toList_toArray, Option.map_some, Option.map_none, Option.some.injEq, List.cons_append, List.nil_append, List.length_cons, List.length_nil, List.getD_cons_zero, List.getD_cons_succ, c3, f3]
      have hne : w.heap.size ≠ D := by omega
      refine ⟨D, rfl, heapSetNe hdef hne.symm, ?_⟩
      have hn5 := heapSet (o := 0) (v := .int .i64 (placesS S).length) hn
      have hM5 : Mod [w.heap.size, D] w2 _ := ((hM3.mono (S' := [w.heap.size, D]) (by simp)).set (p := ⟨w.heap.size, 0, none⟩) (.inl (by simp)) (.int .i64 (placesS S).length)).put (l := D) (.inl (by simp)) (.deferred none)
      generalize hW : (w3.setCell ⟨w.heap.size, 0, none⟩ (.int .i64 (placesS S).length)).putObj D (.deferred none) = w5 at hM5 ⊢
      have hn6 : w5.heap[w.heap.size]? = some (.cells #[.int .i64 (placesS S).length] 3 (0, 0)) := by rw [← hW, heapPn hne]; exact hn5
      have c6 := cellOf (o := 0) hn6
      simp (config := { maxSteps := 1000000 }) only [GS1, GS2, GS3, GS4, GS5, GS6, GS7, GS8, GS9, GS10, GS11, TT_eq, TTl, Nat.reduceAdd, Nat.reduceMul, Nat.reduceSub, Nat.reduceDiv, Nat.reduceMod, Nat.reducePow, Nat.reduceEqDiff, ↓reduceIte, reduceCtorEq, true_and, and_true, and_self, false_and, and_false, Int.reduceToNat, Int.reduceAdd, Int.reduceSub, Int.reduceMul, cond_true, cond_false, List.toList_toArray, Option.map_some, Option.map_none, Option.some.injEq, List.cons_append, List.nil_append, List.length_cons, List.length_nil, List.getD_cons_zero, List.getD_cons_succ, leaveW, loadW, c6]
      refine ⟨_, rfl, hR _ (hMw2.trans hM5 ?_)⟩
      intro x hx
      simp only [List.mem_cons, List.not_mem_nil, or_false] at hx
      have := hMw2.size
      omega
  · rw [decide_eq_false h]
    rw [if_neg h] at hR
    have c1 := cellOf (o := 0) hN1
    have f1 := frozenOf (o := 0) hN1
    simp (config := { maxSteps := 1000000 }) (disch := first | omega | (simp only [sizeAlloc, sizeDrew, sizeSet, sizePut] <;> omega) | fail) only [GS1, GS2, GS3, GS4, GS5, GS6, GS7, GS8, GS9, GS10, GS11, TT_eq, TTl, Nat.reduceAdd, Nat.reduceMul, Nat.reduceSub, Nat.reduceDiv, Nat.reduceMod, Nat.reducePow, Nat.reduceEqDiff, ↓reduceIte, reduceCtorEq, true_and, and_true, and_self, false_and, and_false, Int.reduceToNat, Int.reduceAdd, Int.reduceSub, Int.reduceMul, cond_true, cond_false, List.toList_toArray, Option.map_some, Option.map_none, Option.some.injEq, List.cons_append, List.nil_append, List.length_cons, List.length_nil, List.getD_cons_zero, List.getD_cons_succ, c1, f1, leaveW, loadW]
    exact ⟨_, rfl, hR _ (hMw.set (.inr (by simp)) _)⟩
end Go.Proofs.Ytfobkimmpiahjaa
