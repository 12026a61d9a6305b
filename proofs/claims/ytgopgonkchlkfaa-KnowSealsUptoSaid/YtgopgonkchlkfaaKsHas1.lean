/-
  term.Has (walk).
-/
import Derived.Test.YtgopgonkchlkfaaKsSiz2
set_option linter.unusedSimpArgs false
set_option linter.unusedVariables false
set_option maxRecDepth 20000
namespace Go.Proofs.Ytgopgonkchlkfaa
open Go Go.Wk Go.RowKit
attribute [local irreducible] go Hold
open Go.Lib
def inS' (t sub : List UInt8) : Bool := (placesS t).any fun p => decide (cutS t p = sub)
def hasS (t sub : List UInt8) : Bool := decide (checkS t = 0 ∧ checkS sub = 0) && inS' t sub
theorem cutS_take (S : List UInt8) (a b d : Nat) : cutS S (a, b, d) = List.drop a (List.take b S) := by unfold cutS; rw [List.drop_take]
set_option maxRecDepth 20000 in
set_option maxHeartbeats 8000000 in
theorem tHas_cps (S T : List UInt8) (hS : S.length ≤ maxLen) (hT : T.length ≤ maxLen) (w : World) (R : Ending → World → Prop) (hR : ∀ w', Mod [] w w' → R (.returned (.bool (hasS S T))) w') :
    Calls Try.prog 79 #[.string ⟨S.toArray⟩, .string ⟨T.toArray⟩] w R := by
  unfold hasS at hR
  refine calls_go 4000 okT Try.func79 rfl (rs := [.cell 4 4]) rfl Try.ntmps79 (args := [.string ⟨S.toArray⟩, .string ⟨T.toArray⟩]) ?_
  simp (maxSteps := 1000000) (disch := first | omega | (simp only [sizeAlloc, sizeDrew, sizeSet, sizePut] <;> omega) | fail) only [GS, TT_eq, TTl, Nat.reduceAdd, Nat.reduceMul, Nat.reduceSub, Nat.reduceDiv, Nat.reduceMod, Nat.reducePow, Nat.reduceEqDiff, ↓reduceIte, reduceCtorEq, Int.reduceToNat, Int.reduceAdd, Int.reduceSub, Int.reduceMul]
  have hM0 := (((Mod.refl [] w).alloc (.cells #[.string ⟨S.toArray⟩] 9)).alloc (.cells #[.string ⟨T.toArray⟩] 9)).alloc (.cells #[.bool false] 4)
  have hA : (((w.alloc (.cells #[.string ⟨S.toArray⟩] 9)).alloc (.cells #[.string ⟨T.toArray⟩] 9)).alloc (.cells #[.bool false] 4)).heap[w.heap.size]? = some (.cells #[.string ⟨S.toArray⟩] 9 (0, 0)) := by (simp only [heapA, sizeAlloc]; repeat (first | rfl | rw [if_neg (by omega)] | rw [if_pos (by omega)]))
  have hB : (((w.alloc (.cells #[.string ⟨S.toArray⟩] 9)).alloc (.cells #[.string ⟨T.toArray⟩] 9)).alloc (.cells #[.bool false] 4)).heap[w.heap.size + 1]? = some (.cells #[.string ⟨T.toArray⟩] 9 (0, 0)) := by (simp only [heapA, sizeAlloc]; repeat (first | rfl | rw [if_neg (by omega)] | rw [if_pos (by omega)]))
  have hN : (((w.alloc (.cells #[.string ⟨S.toArray⟩] 9)).alloc (.cells #[.string ⟨T.toArray⟩] 9)).alloc (.cells #[.bool false] 4)).heap[w.heap.size + 2]? = some (.cells #[.bool false] 4 (0, 0)) := by (simp only [heapA, sizeAlloc]; repeat (first | rfl | rw [if_neg (by omega)] | rw [if_pos (by omega)]))
  have hz : (((w.alloc (.cells #[.string ⟨S.toArray⟩] 9)).alloc (.cells #[.string ⟨T.toArray⟩] 9)).alloc (.cells #[.bool false] 4)).heap.size = w.heap.size + 3 := by simp only [sizeAlloc]
  generalize ((w.alloc (.cells #[.string ⟨S.toArray⟩] 9)).alloc (.cells #[.string ⟨T.toArray⟩] 9)).alloc (.cells #[.bool false] 4) = w0 at hA hB hN hM0 hz ⊢
  have hrd : Rd (w0.alloc (.cells #[.string ⟨S.toArray⟩, .string ⟨T.toArray⟩] 9)) 1 (.slice (some ⟨w.heap.size + 1 + 1 + 1, 0, none⟩) 2 2) 2 ([S, T].map strV) := by
    have : w.heap.size + 1 + 1 + 1 = w0.heap.size := by omega
    rw [this]
    exact Rd.lit (n := 2) (xs := [.string ⟨S.toArray⟩, .string ⟨T.toArray⟩]) rfl
  refine ⟨fok64, tIs_cps _ [S, T] _ _ (by simp) (by simp [hS, hT]) hrd fun w1 hM => .inl ⟨_, rfl, hold_ops okT (rs := [.cell 4 4]) rfl ?_⟩⟩
  have hall : allS [S, T] = decide (checkS S = 0 ∧ checkS T = 0) := by unfold allS; simp
  rw [hall]
  have hM1 := ((Mod.refl [] w0).alloc _).trans hM (by simp)
  have hMw := hM0.trans hM1 (by simp)
  have hA1 := hM1.get hA (by simp)
  have hB1 := hM1.get hB (by simp)
  have hN1 := hM1.get hN (by simp)
  have cA := cellOf (o := 0) hA1
  by_cases h : checkS S = 0 ∧ checkS T = 0
  · rw [decide_eq_true h] at hR ⊢
    rw [Bool.true_and] at hR
    obtain ⟨h0, -⟩ := h
    simp (maxSteps := 1000000) (disch := first | omega | (simp only [sizeAlloc, sizeDrew, sizeSet, sizePut] <;> omega) | fail) only [GS, TT_eq, TTl, Nat.reduceAdd, Nat.reduceMul, Nat.reduceSub, Nat.reduceDiv, Nat.reduceMod, Nat.reducePow, Nat.reduceEqDiff, ↓reduceIte, reduceCtorEq, Int.reduceToNat, Int.reduceAdd, Int.reduceSub, Int.reduceMul, cA]
    refine ⟨fok105, places_cps S _ _ (.inl ⟨_, rfl, hold_ops okT (rs := [.cell 4 4]) rfl ?_⟩)⟩
    have hbx := heapNew (w := w1) (o := .cells #[.string ⟨S.toArray⟩] 9)
    have hMx := (Mod.refl [] w1).alloc (.cells #[.string ⟨S.toArray⟩] 9)
    have hN2 := hMx.get hN1 (by simp)
    have hA2 := hMx.get hA1 (by simp)
    have hB2 := hMx.get hB1 (by simp)
    have hMw2 := hMw.trans hMx (by simp)
    generalize w1.heap.size = bx at hbx ⊢
    generalize w1.alloc (.cells #[.string ⟨S.toArray⟩] 9) = w2 at hbx hMx hN2 hA2 hB2 hMw2 ⊢
    simp (maxSteps := 1000000) (disch := first | omega | (simp only [sizeAlloc, sizeDrew, sizeSet, sizePut] <;> omega) | fail) only [GS, TT_eq, TTl, Nat.reduceAdd, Nat.reduceMul, Nat.reduceSub, Nat.reduceDiv, Nat.reduceMod, Nat.reducePow, Nat.reduceEqDiff, ↓reduceIte, reduceCtorEq, Int.reduceToNat, Int.reduceAdd, Int.reduceSub, Int.reduceMul]
    have hNl := ltOf hN2
    refine rangePl S h0 rfl rfl hbx [w.heap.size + 1 + 1] (fun r w' => ∃ done, done ++ r = placesS S ∧ (∀ p ∈ done, cutS S p ≠ T) ∧ w'.heap[w.heap.size]? = some (.cells #[.string ⟨S.toArray⟩] 9 (0, 0)) ∧ w'.heap[w.heap.size + 1]? = some (.cells #[.string ⟨T.toArray⟩] 9 (0, 0)) ∧ w'.heap[w.heap.size + 2]? = some (.cells #[.bool false] 4 (0, 0)))
      (fun w' => inS' S T = true ∧ w'.heap[w.heap.size + 2]? = some (.cells #[.bool true] 4 (0, 0)))
      ⟨[], rfl, by simp, hA2, hB2, hN2⟩ (fun r w1 w2 ⟨d, h1, h2, h3, h4, h5⟩ hc => ⟨d, h1, h2, hc.cells _ _ _ _ h3, hc.cells _ _ _ _ h4, hc.cells _ _ _ _ h5⟩) (fun w1 w2 ⟨h1, h2⟩ hc => ⟨h1, hc.cells _ _ _ _ h2⟩) ?_ ?_ ?_
    · rintro l fid D p r w3 K ⟨done, hd, hno, hA3, hB3, hN3⟩ hM3 hz3 hl hlp hcont hret
      refine hold_code okT (rs := []) rfl ?_
      simp (maxSteps := 1000000) (disch := first | omega | (simp only [sizeAlloc, sizeDrew, sizeSet, sizePut] <;> omega) | fail) only [GS, TT_eq, TTl, Nat.reduceAdd, Nat.reduceMul, Nat.reduceSub, Nat.reduceDiv, Nat.reduceMod, Nat.reducePow, Nat.reduceEqDiff, ↓reduceIte, reduceCtorEq, Int.reduceToNat, Int.reduceAdd, Int.reduceSub, Int.reduceMul]
      have hMa := ((((Mod.refl [] w3).alloc (.cells #[.int .i64 0, .int .i64 0, .int .i64 0] 141)).set (p := ⟨w3.heap.size, 0, none⟩) (.inr (Nat.le_refl _)) (.int .i64 p.1)).set (p := ⟨w3.heap.size, 1, none⟩) (.inr (Nat.le_refl _)) (.int .i64 p.2.1)).set (p := ⟨w3.heap.size, 2, none⟩) (.inr (Nat.le_refl _)) (.int .i64 p.2.2)
      have hpa := heapSet (o := 2) (v := .int .i64 p.2.2) (heapSet (o := 1) (v := .int .i64 p.2.1) (heapSet (o := 0) (v := .int .i64 p.1) (heapNew (w := w3) (o := .cells #[.int .i64 0, .int .i64 0, .int .i64 0] 141))))
      generalize (((w3.alloc (.cells #[.int .i64 0, .int .i64 0, .int .i64 0] 141)).setCell ⟨w3.heap.size, 0, none⟩ (.int .i64 p.1)).setCell ⟨w3.heap.size, 1, none⟩ (.int .i64 p.2.1)).setCell ⟨w3.heap.size, 2, none⟩ (.int .i64 p.2.2) = wa at hMa hpa ⊢
      have hlpa := hMa.get hlp (by simp)
      have hll := ltOf hlp
      have hAa := hMa.get hA3 (by simp)
      have hBa := hMa.get hB3 (by simp)
      have hNa := hMa.get hN3 (by simp)
      have hpl := plOkD hd
      refine ⟨rfl, rfl, _, hlpa, rfl, hold_code okT (rs := []) rfl ?_⟩
      generalize hO : Obj.loop _ = o3
      generalize hW : wa.putObj l o3 = w4
      have hM4 : Mod [l] wa w4 := by rw [← hW]; exact (Mod.refl _ _).put (.inl (by simp)) _
      have hl4 : w4.heap[l]? = some o3 := by rw [← hW]; exact heapPe hlpa
      rw [← hO] at hl4
      clear hO hW
      have hA4 := hM4.get hAa (by simp; omega)
      have hB4 := hM4.get hBa (by simp; omega)
      have hN4 := hM4.get hNa (by simp; omega)
      have hp4 := hM4.get hpa (by simp; omega)
      have d0 : w4.cell? ⟨w.heap.size, 0, none⟩ = some (.string ⟨S.toArray⟩) := by rw [cellOf hA4]; rfl
      have d1 : w4.cell? ⟨w.heap.size + 1, 0, none⟩ = some (.string ⟨T.toArray⟩) := by rw [cellOf hB4]; rfl
      have d3 : w4.cell? ⟨w3.heap.size, 0, none⟩ = some (.int .i64 p.1) := by rw [cellOf hp4]; rfl
      have d4 : w4.cell? ⟨w3.heap.size, 1, none⟩ = some (.int .i64 p.2.1) := by rw [cellOf hp4]; rfl
      obtain ⟨pa, pb, pd⟩ := p
      obtain ⟨q1, q2, q3, q4, q5⟩ := hpl
      simp only at d3 d4 q1 q2 q3 q4 q5
      have hM34 := (hMa.mono (S' := [l]) (by simp)).trans (S' := [l]) hM4 (fun x hx => .inl hx)
      have hcut := cutS_take S pa pb pd
      simp (maxSteps := 1000000) (disch := first | omega | (simp only [sizeAlloc, sizeDrew, sizeSet, sizePut] <;> omega) | fail) only [GS, TT_eq, TTl, Nat.reduceAdd, Nat.reduceMul, Nat.reduceSub, Nat.reduceDiv, Nat.reduceMod, Nat.reducePow, Nat.reduceEqDiff, ↓reduceIte, reduceCtorEq, Int.reduceToNat, Int.reduceAdd, Int.reduceSub, Int.reduceMul, d0, d1, d3, d4]
      refine ⟨by kernel_rfl, fun m => ?_⟩
      have hM5 := hM4.drewN m
      have hM35 := hM34.drewN m
      have hN5 : (w4.drewN m).heap[w.heap.size + 2]? = _ := hN4
      have hA5 : (w4.drewN m).heap[w.heap.size]? = _ := hA4
      have hB5 : (w4.drewN m).heap[w.heap.size + 1]? = _ := hB4
      have hl5 : (w4.drewN m).heap[l]? = _ := hl4
      generalize w4.drewN m = w5 at hM5 hM35 hN5 hA5 hB5 hl5 ⊢
      by_cases heq : List.drop pa (List.take pb S) = T
      · have c5 : w5.cell? ⟨w.heap.size + 1 + 1, 0, none⟩ = some (.bool false) := by rw [cellOf hN5]; rfl
        have f5 : w5.frozen? ⟨w.heap.size + 1 + 1, 0, none⟩ = false := frozenOf hN5
        rw [decide_eq_true heq]
        simp (maxSteps := 1000000) (disch := first | omega | (simp only [sizeAlloc, sizeDrew, sizeSet, sizePut] <;> omega) | fail) only [GS, TT_eq, TTl, Nat.reduceAdd, Nat.reduceMul, Nat.reduceSub, Nat.reduceDiv, Nat.reduceMod, Nat.reducePow, Nat.reduceEqDiff, ↓reduceIte, reduceCtorEq, Int.reduceToNat, Int.reduceAdd, Int.reduceSub, Int.reduceMul, c5, f5]
        refine hret _ [w.heap.size + 1 + 1] ((hM35.mono (by simp)).set (p := ⟨w.heap.size + 1 + 1, 0, none⟩) (.inl (by simp)) _) ?_ (heapSetNe hl5 (by omega)) ⟨?_, heapSet hN5⟩
        · intro x hx
          simp only [List.mem_cons, List.not_mem_nil, or_false] at hx
          subst hx
          exact ⟨.inl (by simp), .inl ⟨_, _, _, hN3, by decide⟩⟩
        · unfold inS'
          rw [List.any_eq_true]
          exact ⟨(pa, pb, pd), by rw [← hd]; simp, by rw [hcut, heq]; simp⟩
      · rw [decide_eq_false heq]
        simp (maxSteps := 1000000) (disch := first | omega | (simp only [sizeAlloc, sizeDrew, sizeSet, sizePut] <;> omega) | fail) only [GS, TT_eq, TTl, Nat.reduceAdd, Nat.reduceMul, Nat.reduceSub, Nat.reduceDiv, Nat.reduceMod, Nat.reducePow, Nat.reduceEqDiff, ↓reduceIte, reduceCtorEq, Int.reduceToNat, Int.reduceAdd, Int.reduceSub, Int.reduceMul]
        refine hcont _ [] hM35 (by simp) hl5 ⟨done ++ [(pa, pb, pd)], by simpa using hd, ?_, hA5, hB5, hN5⟩
        intro q hq
        simp only [List.mem_append, List.mem_cons, List.not_mem_nil, or_false] at hq
        rcases hq with hq | rfl
        · exact hno q hq
        · rw [hcut]; exact heq
    · rintro w3 D ⟨done, hd, hno, hA3, hB3, hN3⟩ hM3 hD hdef
      rw [List.append_nil] at hd
      subst hd
      have hin : inS' S T = false := by
        unfold inS'
        rw [List.any_eq_false]; exact fun p hp => by simp [hno p hp]
      rw [hin] at hR
      refine hold_ex okT (rs := [.cell 4 4]) rfl ?_
      have c3 : w3.cell? ⟨w.heap.size + 1 + 1, 0, none⟩ = some (.bool false) := by rw [cellOf hN3]; rfl
      have f3 : w3.frozen? ⟨w.heap.size + 1 + 1, 0, none⟩ = false := frozenOf hN3
      simp (maxSteps := 1000000) (disch := first | omega | (simp only [sizeAlloc, sizeDrew, sizeSet, sizePut] <;> omega) | fail) only [GS, TT_eq, TTl, Nat.reduceAdd, Nat.reduceMul, Nat.reduceSub, Nat.reduceDiv, Nat.reduceMod, Nat.reducePow, Nat.reduceEqDiff, ↓reduceIte, reduceCtorEq, Int.reduceToNat, Int.reduceAdd, Int.reduceSub, Int.reduceMul, c3, f3]
      have hne : w.heap.size + 1 + 1 ≠ D := by omega
      refine ⟨D, rfl, heapSetNe hdef hne.symm, ?_⟩
      have hn5 := heapSet (o := 0) (v := .bool false) hN3
      have hM5 : Mod [w.heap.size + 1 + 1, D] w2 _ := ((hM3.mono (S' := [w.heap.size + 1 + 1, D]) (by simp)).set (p := ⟨w.heap.size + 1 + 1, 0, none⟩) (.inl (by simp)) (.bool false)).put (l := D) (.inl (by simp)) (.deferred none)
      generalize hW : (w3.setCell ⟨w.heap.size + 1 + 1, 0, none⟩ (.bool false)).putObj D (.deferred none) = w5 at hM5 ⊢
      have hn6 : w5.heap[w.heap.size + 1 + 1]? = some (.cells #[.bool false] 4 (0, 0)) := by rw [← hW, heapPn hne]; exact hn5
      have c6 := cellOf (o := 0) hn6
      simp (maxSteps := 1000000) only [GS, TT_eq, TTl, Nat.reduceAdd, Nat.reduceMul, Nat.reduceSub, Nat.reduceDiv, Nat.reduceMod, Nat.reducePow, Nat.reduceEqDiff, ↓reduceIte, reduceCtorEq, Int.reduceToNat, Int.reduceAdd, Int.reduceSub, Int.reduceMul, leaveW, loadW, c6]
      refine ⟨_, rfl, hR _ (hMw2.trans hM5 ?_)⟩
      intro x hx
      simp only [List.mem_cons, List.not_mem_nil, or_false] at hx
      have := hMw2.size
      omega
    · rintro w3 D ⟨hin, hN3⟩ hM3 hD hdef
      rw [hin] at hR
      refine hold_ex okT (rs := [.cell 4 4]) rfl ?_
      simp (maxSteps := 1000000) (disch := first | omega | (simp only [sizeAlloc, sizeDrew, sizeSet, sizePut] <;> omega) | fail) only [GS, TT_eq, TTl, Nat.reduceAdd, Nat.reduceMul, Nat.reduceSub, Nat.reduceDiv, Nat.reduceMod, Nat.reducePow, Nat.reduceEqDiff, ↓reduceIte, reduceCtorEq, Int.reduceToNat, Int.reduceAdd, Int.reduceSub, Int.reduceMul]
      have hne : w.heap.size + 1 + 1 ≠ D := by omega
      refine ⟨D, rfl, hdef, ?_⟩
      have hM5 : Mod [w.heap.size + 1 + 1, D] w2 _ := (hM3.mono (S' := [w.heap.size + 1 + 1, D]) (by simp)).put (l := D) (.inl (by simp)) (.deferred none)
      generalize hW : w3.putObj D (.deferred none) = w5 at hM5 ⊢
      have hn6 : w5.heap[w.heap.size + 1 + 1]? = some (.cells #[.bool true] 4 (0, 0)) := by rw [← hW, heapPn hne]; exact hN3
      have c6 := cellOf (o := 0) hn6
      simp (maxSteps := 1000000) only [GS, TT_eq, TTl, Nat.reduceAdd, Nat.reduceMul, Nat.reduceSub, Nat.reduceDiv, Nat.reduceMod, Nat.reducePow, Nat.reduceEqDiff, ↓reduceIte, reduceCtorEq, Int.reduceToNat, Int.reduceAdd, Int.reduceSub, Int.reduceMul, leaveW, loadW, c6]
      refine ⟨_, rfl, hR _ (hMw2.trans hM5 ?_)⟩
      intro x hx
      simp only [List.mem_cons, List.not_mem_nil, or_false] at hx
      have := hMw2.size
      omega
  · rw [decide_eq_false h] at hR ⊢
    rw [Bool.false_and] at hR
    have c1 := cellOf (o := 0) hN1
    have f1 := frozenOf (o := 0) hN1
    simp (maxSteps := 1000000) (disch := first | omega | (simp only [sizeAlloc, sizeDrew, sizeSet, sizePut] <;> omega) | fail) only [GS, TT_eq, TTl, Nat.reduceAdd, Nat.reduceMul, Nat.reduceSub, Nat.reduceDiv, Nat.reduceMod, Nat.reducePow, Nat.reduceEqDiff, ↓reduceIte, reduceCtorEq, Int.reduceToNat, Int.reduceAdd, Int.reduceSub, Int.reduceMul, c1, f1, leaveW, loadW]
    exact ⟨_, rfl, hR _ (hMw.set (.inr (by simp; omega)) _)⟩
end Go.Proofs.Ytgopgonkchlkfaa
