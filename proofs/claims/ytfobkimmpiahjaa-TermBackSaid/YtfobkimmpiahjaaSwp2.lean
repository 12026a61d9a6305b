/-
  term.Swap (walk).
-/
import Derived.Test.YtfobkimmpiahjaaSwp1
set_option linter.unusedSimpArgs false
set_option linter.unusedVariables false
namespace Go.Proofs.Ytfobkimmpiahjaa
open Go Go.Wk Go.RowKit
attribute [local irreducible] go Hold
open Go.Lib
set_option maxRecDepth 20000 in
set_option maxHeartbeats 16000000 in
theorem tSwap_cps (S F T : List UInt8) (hS : S.length ≤ maxLen) (hF : F.length ≤ maxLen) (hT : T.length ≤ maxLen) (w : World) (R : Ending → World → Prop) (hR : ∀ w', Mod [] w w' → R (.returned (stV (swapS S F T))) w') :
    Calls Try.prog 23 #[.string ⟨S.toArray⟩, .string ⟨F.toArray⟩, .string ⟨T.toArray⟩] w R := by
  unfold swapS stV at hR
  refine calls_go 4000 okT Try.func23 rfl (rs := [.cell 6 9, .cell 7 25]) rfl Try.ntmps23 (args := [.string ⟨S.toArray⟩, .string ⟨F.toArray⟩, .string ⟨T.toArray⟩]) ?_
  simp (config := { maxSteps := 1000000 }) (disch := first | omega | (simp only [sizeAlloc, sizeDrew, sizeSet, sizePut] <;> omega) | fail) only [GS1, GS2, GS3, GS4, GS5, GS6, GS7, GS8, GS9, GS10, GS11, TT_eq, TTl, Nat.reduceAdd, Nat.reduceMul, Nat.reduceSub, Nat.reduceDiv, Nat.reduceMod, Nat.reducePow, Nat.reduceEqDiff, ↓reduceIte, reduceCtorEq, true_and, and_true, and_self, false_and, and_false, Int.reduceToNat, Int.reduceAdd, Int.reduceSub, Int.reduceMul, cond_true, cond_false, List.toList_toArray, Option.map_some, Option.map_none, Option.some.injEq, List.cons_append, List.nil_append, List.length_cons, List.length_nil, List.getD_cons_zero, List.getD_cons_succ]
  have hM0 : Mod [] w (((((w.alloc (.cells #[.string ⟨S.toArray⟩] 9)).alloc (.cells #[.string ⟨F.toArray⟩] 9)).alloc (.cells #[.string ⟨T.toArray⟩] 9)).alloc (.cells #[.string ⟨#[]⟩] 9)).alloc (.cells #[.int .i64 0] 25)) := (((((Mod.refl [] w).alloc _).alloc _).alloc _).alloc _).alloc _
  have hA0 : (((((w.alloc (.cells #[.string ⟨S.toArray⟩] 9)).alloc (.cells #[.string ⟨F.toArray⟩] 9)).alloc (.cells #[.string ⟨T.toArray⟩] 9)).alloc (.cells #[.string ⟨#[]⟩] 9)).alloc (.cells #[.int .i64 0] 25)).heap[w.heap.size]? = some (.cells #[.string ⟨S.toArray⟩] 9 (0, 0)) := by (simp only [heapA, sizeAlloc]; repeat (first | rfl | rw [if_neg (by omega)] | rw [if_pos (by omega)]))
  have hA1 : (((((w.alloc (.cells #[.string ⟨S.toArray⟩] 9)).alloc (.cells #[.string ⟨F.toArray⟩] 9)).alloc (.cells #[.string ⟨T.toArray⟩] 9)).alloc (.cells #[.string ⟨#[]⟩] 9)).alloc (.cells #[.int .i64 0] 25)).heap[w.heap.size + 1]? = some (.cells #[.string ⟨F.toArray⟩] 9 (0, 0)) := by (simp only [heapA, sizeAlloc]; repeat (first | rfl | rw [if_neg (by omega)] | rw [if_pos (by omega)]))
  have hA2 : (((((w.alloc (.cells #[.string ⟨S.toArray⟩] 9)).alloc (.cells #[.string ⟨F.toArray⟩] 9)).alloc (.cells #[.string ⟨T.toArray⟩] 9)).alloc (.cells #[.string ⟨#[]⟩] 9)).alloc (.cells #[.int .i64 0] 25)).heap[w.heap.size + 2]? = some (.cells #[.string ⟨T.toArray⟩] 9 (0, 0)) := by (simp only [heapA, sizeAlloc]; repeat (first | rfl | rw [if_neg (by omega)] | rw [if_pos (by omega)]))
  have hA3 : (((((w.alloc (.cells #[.string ⟨S.toArray⟩] 9)).alloc (.cells #[.string ⟨F.toArray⟩] 9)).alloc (.cells #[.string ⟨T.toArray⟩] 9)).alloc (.cells #[.string ⟨#[]⟩] 9)).alloc (.cells #[.int .i64 0] 25)).heap[w.heap.size + 3]? = some (.cells #[.string ⟨([] : List UInt8).toArray⟩] 9 (0, 0)) := by (simp only [heapA, sizeAlloc]; repeat (first | rfl | rw [if_neg (by omega)] | rw [if_pos (by omega)]))
  have hA4 : (((((w.alloc (.cells #[.string ⟨S.toArray⟩] 9)).alloc (.cells #[.string ⟨F.toArray⟩] 9)).alloc (.cells #[.string ⟨T.toArray⟩] 9)).alloc (.cells #[.string ⟨#[]⟩] 9)).alloc (.cells #[.int .i64 0] 25)).heap[w.heap.size + 4]? = some (.cells #[.int .i64 0] 25 (0, 0)) := by (simp only [heapA, sizeAlloc]; repeat (first | rfl | rw [if_neg (by omega)] | rw [if_pos (by omega)]))
  have hz : (((((w.alloc (.cells #[.string ⟨S.toArray⟩] 9)).alloc (.cells #[.string ⟨F.toArray⟩] 9)).alloc (.cells #[.string ⟨T.toArray⟩] 9)).alloc (.cells #[.string ⟨#[]⟩] 9)).alloc (.cells #[.int .i64 0] 25)).heap.size = w.heap.size + 5 := by simp only [sizeAlloc]
  generalize ((((w.alloc (.cells #[.string ⟨S.toArray⟩] 9)).alloc (.cells #[.string ⟨F.toArray⟩] 9)).alloc (.cells #[.string ⟨T.toArray⟩] 9)).alloc (.cells #[.string ⟨#[]⟩] 9)).alloc (.cells #[.int .i64 0] 25) = w0 at hA0 hA1 hA2 hA3 hA4 hM0 hz ⊢
  have hrd : Rd (w0.alloc (.cells #[.string ⟨S.toArray⟩, .string ⟨F.toArray⟩, .string ⟨T.toArray⟩] 9)) 1 (.slice (some ⟨w.heap.size + 1 + 1 + 1 + 1 + 1, 0, none⟩) 3 3) 3 ([S, F, T].map strV) := by
    have : w.heap.size + 1 + 1 + 1 + 1 + 1 = w0.heap.size := by omega
    rw [this]
    exact Rd.lit (n := 3) (xs := [.string ⟨S.toArray⟩, .string ⟨F.toArray⟩, .string ⟨T.toArray⟩]) rfl
  refine ⟨fok40, tIs_cps _ [S, F, T] _ _ (by simp) (by simp [hS, hF, hT]) hrd fun w1 hM => .inl ⟨_, rfl, hold_ops okT (rs := [.cell 6 9, .cell 7 25]) rfl ?_⟩⟩
  have hall : allS [S, F, T] = decide (checkS S = 0 ∧ checkS F = 0 ∧ checkS T = 0) := by unfold allS; simp [Bool.and_assoc]
  rw [hall]
  have hM1 := ((Mod.refl [] w0).alloc _).trans hM (by simp)
  have hMw := hM0.trans hM1 (by simp)
  replace hA0 := hM1.get hA0 (by simp)
  replace hA1 := hM1.get hA1 (by simp)
  replace hA2 := hM1.get hA2 (by simp)
  replace hA3 := hM1.get hA3 (by simp)
  replace hA4 := hM1.get hA4 (by simp)
  have cA := cellOf (o := 0) hA0
  have c3 : w1.cell? ⟨w.heap.size + 1 + 1 + 1, 0, none⟩ = some (.string ⟨#[]⟩) := by rw [cellOf hA3]; rfl
  have c4 : w1.cell? ⟨w.heap.size + 1 + 1 + 1 + 1, 0, none⟩ = some (.int .i64 0) := by rw [cellOf hA4]; rfl
  have f3 : w1.frozen? ⟨w.heap.size + 1 + 1 + 1, 0, none⟩ = false := frozenOf hA3
  have f4 : w1.frozen? ⟨w.heap.size + 1 + 1 + 1 + 1, 0, none⟩ = false := frozenOf hA4
  have hz1 := hMw.size
  have hl4 := ltOf hA4
  by_cases h : checkS S = 0 ∧ checkS F = 0 ∧ checkS T = 0
  · rw [decide_eq_true h]
    rw [if_pos h] at hR
    obtain ⟨h0, hF0, hT0⟩ := h
    have hSl := (check0 h0).2.2
    have hTl := (check0 hT0).2.2
    simp (config := { maxSteps := 1000000 }) (disch := first | omega | (simp only [sizeAlloc, sizeDrew, sizeSet, sizePut] <;> omega) | fail) only [GS1, GS2, GS3, GS4, GS5, GS6, GS7, GS8, GS9, GS10, GS11, TT_eq, TTl, Nat.reduceAdd, Nat.reduceMul, Nat.reduceSub, Nat.reduceDiv, Nat.reduceMod, Nat.reducePow, Nat.reduceEqDiff, ↓reduceIte, reduceCtorEq, true_and, and_true, and_self, false_and, and_false, Int.reduceToNat, Int.reduceAdd, Int.reduceSub, Int.reduceMul, cond_true, cond_false, List.toList_toArray, Option.map_some, Option.map_none, Option.some.injEq, List.cons_append, List.nil_append, List.length_cons, List.length_nil, List.getD_cons_zero, List.getD_cons_succ, cA]
    have hMb : Mod [] w1 (((w1.alloc (.cells #[.pointer none, .slice none 0 0] 57)).alloc (.cells #[.int .i64 0] 3)).setCell ⟨w1.heap.size + 1, 0, none⟩ (.int .i64 0)) := ((Mod.refl [] w1).alloc _ |>.alloc _).set (p := ⟨w1.heap.size + 1, 0, none⟩) (.inr (Nat.le_succ _)) _
    have hi0 : ((w1.alloc (.cells #[.pointer none, .slice none 0 0] 57)).alloc (.cells #[.int .i64 0] 3)).heap[w1.heap.size + 1]? = some (.cells #[.int .i64 0] 3 (0, 0)) := heapAe (by simp only [sizeAlloc])
    have hBd : Bd w1.heap.size [] (((w1.alloc (.cells #[.pointer none, .slice none 0 0] 57)).alloc (.cells #[.int .i64 0] 3)).setCell ⟨w1.heap.size + 1, 0, none⟩ (.int .i64 0)) := ((Bd.new (w := w1)).mod (S := []) ((Mod.refl [] _).alloc _) (by simp)).modC (Z := [w1.heap.size + 1]) ((Mod.refl _ _).set (.inl (by simp)) _) (by intro x hx; simp only [List.mem_cons, List.not_mem_nil, or_false] at hx; subst hx; exact .inr ⟨_, hi0, by rintro _ _ _ h; cases h; decide⟩)
    have hb1 : (((w1.alloc (.cells #[.pointer none, .slice none 0 0] 57)).alloc (.cells #[.int .i64 0] 3)).setCell ⟨w1.heap.size + 1, 0, none⟩ (.int .i64 0)).heap[w1.heap.size + 1]? = some (.cells #[.int .i64 0] 3 (0, 0)) := heapSet (o := 0) (v := .int .i64 0) hi0
    have hzb : (((w1.alloc (.cells #[.pointer none, .slice none 0 0] 57)).alloc (.cells #[.int .i64 0] 3)).setCell ⟨w1.heap.size + 1, 0, none⟩ (.int .i64 0)).heap.size = w1.heap.size + 2 := by simp only [sizeSet, sizeAlloc]
    generalize (((w1.alloc (.cells #[.pointer none, .slice none 0 0] 57)).alloc (.cells #[.int .i64 0] 3)).setCell ⟨w1.heap.size + 1, 0, none⟩ (.int .i64 0)) = wb at hMb hBd hb1 hzb ⊢
    refine ⟨fok41, places_cps S _ _ (.inl ⟨_, rfl, hold_ops okT (rs := [.cell 6 9, .cell 7 25]) rfl ?_⟩)⟩
    have hbx := heapNew (w := wb) (o := .cells #[.string ⟨S.toArray⟩] 9)
    have hMx := (Mod.refl [] wb).alloc (.cells #[.string ⟨S.toArray⟩] 9)
    have hM12 := hMb.trans hMx (by simp)
    have hMw2 := hMw.trans hM12 (by simp)
    replace hA0 := hM12.get hA0 (by simp)
    replace hA1 := hM12.get hA1 (by simp)
    replace hA2 := hM12.get hA2 (by simp)
    replace hA3 := hM12.get hA3 (by simp)
    replace hA4 := hM12.get hA4 (by simp)
    replace hb1 := hMx.get hb1 (by simp)
    replace hBd := hBd.mod hMx (by simp)
    have hz2 : (wb.alloc (.cells #[.string ⟨S.toArray⟩] 9)).heap.size = w1.heap.size + 3 := by simp only [sizeAlloc]; omega
    rw [hzb] at hbx ⊢
    generalize wb.alloc (.cells #[.string ⟨S.toArray⟩] 9) = w2 at *
    generalize w1.heap.size = b at *
    generalize hn : w.heap.size = n at *
    clear hM0 hM1 hM hMb hMx hM12 cA c3 c4 f3 f4 hrd
    simp (config := { maxSteps := 1000000 }) (disch := first | omega | (simp only [sizeAlloc, sizeDrew, sizeSet, sizePut] <;> omega) | fail) only [GS1, GS2, GS3, GS4, GS5, GS6, GS7, GS8, GS9, GS10, GS11, TT_eq, TTl, Nat.reduceAdd, Nat.reduceMul, Nat.reduceSub, Nat.reduceDiv, Nat.reduceMod, Nat.reducePow, Nat.reduceEqDiff, ↓reduceIte, reduceCtorEq, true_and, and_true, and_self, false_and, and_false, Int.reduceToNat, Int.reduceAdd, Int.reduceSub, Int.reduceMul, cond_true, cond_false, List.toList_toArray, Option.map_some, Option.map_none, Option.some.injEq, List.cons_append, List.nil_append, List.length_cons, List.length_nil, List.getD_cons_zero, List.getD_cons_succ]
    refine rangePl S h0 rfl rfl hbx [b, b + 1, n + 3, n + 4] (fun r w' => ∃ d o, SwU S F T n b r d o w') (fun w' => swp S F T (placesS S) 0 [] = none ∧ w'.heap[n + 3]? = some (.cells #[.string ⟨([] : List UInt8).toArray⟩] 9 (0, 0)) ∧ w'.heap[n + 4]? = some (.cells #[.int .i64 5] 25 (0, 0)))
      ⟨0, [], rfl, by omega, by simp, fun _ => rfl, ⟨[], rfl⟩, hA0, hA1, hA2, hA3, hA4, hBd, hb1, hbx⟩ (fun r w1 w2 ⟨d, o, h⟩ hc => ⟨d, o, h.ck hc⟩) (fun w1 w2 ⟨h1, h2, h3⟩ hc => ⟨h1, hc.cells _ _ _ _ h2, hc.cells _ _ _ _ h3⟩) ?_ ?_ ?_
    · rintro l fid D p r w3 K ⟨d, o, U3⟩ hM3 hz3 hl hlp hcont hret
      refine hold_code okT (rs := []) rfl ?_
      simp (config := { maxSteps := 1000000 }) (disch := first | omega | (simp only [sizeAlloc, sizeDrew, sizeSet, sizePut] <;> omega) | fail) only [GS1, GS2, GS3, GS4, GS5, GS6, GS7, GS8, GS9, GS10, GS11, TT_eq, TTl, Nat.reduceAdd, Nat.reduceMul, Nat.reduceSub, Nat.reduceDiv, Nat.reduceMod, Nat.reducePow, Nat.reduceEqDiff, ↓reduceIte, reduceCtorEq, true_and, and_true, and_self, false_and, and_false, Int.reduceToNat, Int.reduceAdd, Int.reduceSub, Int.reduceMul, cond_true, cond_false, List.toList_toArray, Option.map_some, Option.map_none, Option.some.injEq, List.cons_append, List.nil_append, List.length_cons, List.length_nil, List.getD_cons_zero, List.getD_cons_succ]
      have hMa := ((((Mod.refl [] w3).alloc (.cells #[.int .i64 0, .int .i64 0, .int .i64 0] 62)).set (p := ⟨w3.heap.size, 0, none⟩) (.inr (Nat.le_refl _)) (.int .i64 p.1)).set (p := ⟨w3.heap.size, 1, none⟩) (.inr (Nat.le_refl _)) (.int .i64 p.2.1)).set (p := ⟨w3.heap.size, 2, none⟩) (.inr (Nat.le_refl _)) (.int .i64 p.2.2)
      have hpa := heapSet (o := 2) (v := .int .i64 p.2.2) (heapSet (o := 1) (v := .int .i64 p.2.1) (heapSet (o := 0) (v := .int .i64 p.1) (heapNew (w := w3) (o := .cells #[.int .i64 0, .int .i64 0, .int .i64 0] 62))))
      generalize (((w3.alloc (.cells #[.int .i64 0, .int .i64 0, .int .i64 0] 62)).setCell ⟨w3.heap.size, 0, none⟩ (.int .i64 p.1)).setCell ⟨w3.heap.size, 1, none⟩ (.int .i64 p.2.1)).setCell ⟨w3.heap.size, 2, none⟩ (.int .i64 p.2.2) = wa at hMa hpa ⊢
      have hlpa := hMa.get hlp (by simp)
      have hll := ltOf hlp
      have Ua := U3.ck (CK.of hMa)
      obtain ⟨done, hdone⟩ := U3.suf
      have hpl := plOkD hdone
      refine ⟨rfl, rfl, _, hlpa, rfl, hold_code okT (rs := []) rfl ?_⟩
      generalize hO : Obj.loop _ = o3
      have U4 := Ua.ck (CK.put hlpa o3)
      generalize hW : wa.putObj l o3 = w4 at U4 ⊢
      have hM4 : Mod [l] wa w4 := by rw [← hW]; exact (Mod.refl _ _).put (.inl (by simp)) _
      have hl4 : w4.heap[l]? = some o3 := by rw [← hW]; exact heapPe hlpa
      rw [← hO] at hl4
      clear hO hW
      have hp4 := hM4.get hpa (by simp; omega)
      have d0 : w4.cell? ⟨n, 0, none⟩ = some (.string ⟨S.toArray⟩) := by rw [cellOf U4.a0]; rfl
      have d1 : w4.cell? ⟨n + 1, 0, none⟩ = some (.string ⟨F.toArray⟩) := by rw [cellOf U4.a1]; rfl
      have d9 : w4.cell? ⟨b + 1, 0, none⟩ = some (.int .i64 d) := by rw [cellOf U4.b1]; rfl
      have d3 : w4.cell? ⟨w3.heap.size, 0, none⟩ = some (.int .i64 p.1) := by rw [cellOf hp4]; rfl
      have d4 : w4.cell? ⟨w3.heap.size, 1, none⟩ = some (.int .i64 p.2.1) := by rw [cellOf hp4]; rfl
      obtain ⟨pa, pb, pd⟩ := p
      obtain ⟨q1, q2, q3, q4, q5⟩ := hpl
      simp only at d3 d4 q1 q2 q3 q4 q5
      have hM34 := (hMa.mono (S' := [l]) (by simp)).trans (S' := [l]) hM4 (fun x hx => .inl hx)
      have hcut := cutS_take S pa pb pd
      have hdl := U4.dl
      have hol := U4.ol
      have hst := U4.st
      rw [swp, hcut] at hst
      simp only at hst
      have hsuf : ∃ done, done ++ r = placesS S := ⟨done ++ [(pa, pb, pd)], by simpa using hdone⟩
      by_cases hlt : pa < d
      · rw [if_pos (.inl hlt)] at hst
        simp (config := { maxSteps := 1000000 }) (disch := first | omega | (simp only [sizeAlloc, sizeDrew, sizeSet, sizePut] <;> omega) | fail) only [GS1, GS2, GS3, GS4, GS5, GS6, GS7, GS8, GS9, GS10, GS11, TT_eq, TTl, Nat.reduceAdd, Nat.reduceMul, Nat.reduceSub, Nat.reduceDiv, Nat.reduceMod, Nat.reducePow, Nat.reduceEqDiff, ↓reduceIte, reduceCtorEq, true_and, and_true, and_self, false_and, and_false, Int.reduceToNat, Int.reduceAdd, Int.reduceSub, Int.reduceMul, cond_true, cond_false, List.toList_toArray, Option.map_some, Option.map_none, Option.some.injEq, List.cons_append, List.nil_append, List.length_cons, List.length_nil, List.getD_cons_zero, List.getD_cons_succ, d0, d1, d3, d4, d9]
        refine ⟨by kernel_rfl, fun m => ?_⟩
        exact hcont _ [] (hM34.drewN m) (by simp) hl4 ⟨d, o, { U4.ck (CK.of (Mod.drewN m (Mod.refl [] w4))) with st := hst, suf := hsuf }⟩
      · by_cases heq : List.drop pa (List.take pb S) = F
        · rw [if_neg (by rintro (h | h); exact hlt h; exact h heq)] at hst
          simp (config := { maxSteps := 1000000 }) (disch := first | omega | (simp only [sizeAlloc, sizeDrew, sizeSet, sizePut] <;> omega) | fail) only [GS1, GS2, GS3, GS4, GS5, GS6, GS7, GS8, GS9, GS10, GS11, TT_eq, TTl, Nat.reduceAdd, Nat.reduceMul, Nat.reduceSub, Nat.reduceDiv, Nat.reduceMod, Nat.reducePow, Nat.reduceEqDiff, ↓reduceIte, reduceCtorEq, true_and, and_true, and_self, false_and, and_false, Int.reduceToNat, Int.reduceAdd, Int.reduceSub, Int.reduceMul, cond_true, cond_false, List.toList_toArray, Option.map_some, Option.map_none, Option.some.injEq, List.cons_append, List.nil_append, List.length_cons, List.length_nil, List.getD_cons_zero, List.getD_cons_succ, d0, d1, d3, d4, d9]
          refine ⟨by kernel_rfl, fun m => ?_⟩
          have hM5 := hM34.drewN m
          have U5 := U4.ck (CK.of (Mod.drewN m (Mod.refl [] w4)))
          have hl5 : (w4.drewN m).heap[l]? = _ := hl4
          have hp5 : (w4.drewN m).heap[w3.heap.size]? = _ := hp4
          generalize w4.drewN m = w5 at hM5 U5 hl5 hp5 ⊢
          have hlen1 : ((S.take pa).drop d).length ≤ 16384 := by rw [List.length_drop, List.length_take]; omega
          refine ⟨fok42, bdWrite_cps b o ((S.take pa).drop d) _ U5.bd (by omega) _ fun w6 hb6 hB6 => .inl ⟨_, rfl, hold_ops okT (rs := []) rfl ?_⟩⟩
          have g2 := hB6.get U5.a2 (by rintro _ _ _ h; cases h; decide)
          have e2 : w6.cell? ⟨n + 1 + 1, 0, none⟩ = some (.string ⟨T.toArray⟩) := by rw [cellOf g2]; rfl
          simp (config := { maxSteps := 1000000 }) (disch := first | omega | (simp only [sizeAlloc, sizeDrew, sizeSet, sizePut] <;> omega) | fail) only [GS1, GS2, GS3, GS4, GS5, GS6, GS7, GS8, GS9, GS10, GS11, TT_eq, TTl, Nat.reduceAdd, Nat.reduceMul, Nat.reduceSub, Nat.reduceDiv, Nat.reduceMod, Nat.reducePow, Nat.reduceEqDiff, ↓reduceIte, reduceCtorEq, true_and, and_true, and_self, false_and, and_false, Int.reduceToNat, Int.reduceAdd, Int.reduceSub, Int.reduceMul, cond_true, cond_false, List.toList_toArray, Option.map_some, Option.map_none, Option.some.injEq, List.cons_append, List.nil_append, List.length_cons, List.length_nil, List.getD_cons_zero, List.getD_cons_succ, e2]
          refine ⟨fok42, bdWrite_cps b (o ++ (S.take pa).drop d) T _ hb6 (by rw [List.length_append]; omega) _ fun w7 hb7 hB7 => .inl ⟨_, rfl, hold_ops okT (rs := []) rfl ?_⟩⟩
          have hB57 := hB6.trans hB7
          have hp7 := hB57.get hp5 (by rintro _ _ _ h; cases h; decide)
          have hl7 := hB57.get hl5 (by rintro _ _ _ h; cases h)
          have k0 := hB57.get U5.a0 (by rintro _ _ _ h; cases h; decide)
          have k1 := hB57.get U5.a1 (by rintro _ _ _ h; cases h; decide)
          have k2 := hB57.get U5.a2 (by rintro _ _ _ h; cases h; decide)
          have k3 := hB57.get U5.a3 (by rintro _ _ _ h; cases h; decide)
          have k4 := hB57.get U5.a4 (by rintro _ _ _ h; cases h; decide)
          have j1 := hB57.get U5.b1 (by rintro _ _ _ h; cases h; decide)
          have j2 := hB57.get U5.b2 (by rintro _ _ _ h; cases h; decide)
          have e4 : w7.cell? ⟨w3.heap.size, 1, none⟩ = some (.int .i64 pb) := by rw [cellOf hp7]; rfl
          have e9 : w7.cell? ⟨b + 1, 0, none⟩ = some (.int .i64 d) := by rw [cellOf j1]; rfl
          have z9 : w7.frozen? ⟨b + 1, 0, none⟩ = false := frozenOf j1
          simp (config := { maxSteps := 1000000 }) (disch := first | omega | (simp only [sizeAlloc, sizeDrew, sizeSet, sizePut] <;> omega) | fail) only [GS1, GS2, GS3, GS4, GS5, GS6, GS7, GS8, GS9, GS10, GS11, TT_eq, TTl, Nat.reduceAdd, Nat.reduceMul, Nat.reduceSub, Nat.reduceDiv, Nat.reduceMod, Nat.reducePow, Nat.reduceEqDiff, ↓reduceIte, reduceCtorEq, true_and, and_true, and_self, false_and, and_false, Int.reduceToNat, Int.reduceAdd, Int.reduceSub, Int.reduceMul, cond_true, cond_false, List.toList_toArray, Option.map_some, Option.map_none, Option.some.injEq, List.cons_append, List.nil_append, List.length_cons, List.length_nil, List.getD_cons_zero, List.getD_cons_succ, e4, e9, z9]
          have hbl : b < w7.heap.size := hb7.lt
          have hb8 := hb7.modC (Z := [b + 1]) ((Mod.refl _ _).set (p := ⟨b + 1, 0, none⟩) (.inl (by simp)) (.int .i64 pb)) (by intro x hx; simp only [List.mem_cons, List.not_mem_nil, or_false] at hx; subst hx; exact .inr ⟨_, j1, by rintro _ _ _ h; cases h; decide⟩)
          have hMs : Mod [b + 1] w7 (w7.setCell ⟨b + 1, 0, none⟩ (.int .i64 pb)) := (Mod.refl _ _).set (.inl (by simp)) _
          have j1' := heapSet (o := 0) (v := .int .i64 pb) j1
          replace hl7 := hMs.get hl7 (by simp; omega)
          replace k0 := hMs.get k0 (by simp; omega)
          replace k1 := hMs.get k1 (by simp; omega)
          replace k2 := hMs.get k2 (by simp; omega)
          replace k3 := hMs.get k3 (by simp; omega)
          replace k4 := hMs.get k4 (by simp; omega)
          replace j2 := hMs.get j2 (by simp)
          obtain ⟨Z1, hZ1, hZ2⟩ := hB57
          have hM8 : Mod (l :: (Z1 ++ [b + 1])) w3 (w7.setCell ⟨b + 1, 0, none⟩ (.int .i64 pb)) := ((hM5.mono (S' := l :: (Z1 ++ [b + 1])) (by simp)).trans hZ1 (fun x hx => .inl (by simp [hx]))).trans hMs (fun x hx => .inl (by simp only [List.mem_cons, List.not_mem_nil, or_false] at hx; simp [hx]))
          have hZf : ∀ x ∈ Z1, (x ∈ [b, b + 1, n + 3, n + 4] ∨ w2.heap.size ≤ x) ∧ Cell w3 x := by
            intro x hx
            obtain ⟨y1, y2⟩ := hZ2 x hx
            have y3 : b + 2 ≠ x := y2.ne U5.b2 (by rintro _ _ _ h; cases h; decide)
            refine ⟨?_, y2.cell.back hM5 hl5 (by rintro _ _ _ h; cases h)⟩
            by_cases x = b
            · exact .inl (by simp [*])
            · by_cases x = b + 1
              · exact .inl (by simp [*])
              · exact .inr (by omega)
          have hC1 : Cell w3 (b + 1) := .inl ⟨_, _, _, U3.b1, by decide⟩
          generalize w7.setCell ⟨b + 1, 0, none⟩ (.int .i64 pb) = w8 at hl7 k0 k1 k2 k3 k4 j1' j2 hb8 hM8 ⊢
          have hlen3 : (o ++ List.drop d (List.take pa S) ++ T).length ≤ 65536 := by rw [List.length_append, List.length_append]; omega
          refine ⟨fok43, bdLen_cps b _ _ hb8 (by omega) _ (.inl ⟨_, rfl, hold_ops okT (rs := []) rfl ?_⟩)⟩
          by_cases hlong : 16384 < (o ++ List.drop d (List.take pa S) ++ T).length
          · rw [if_pos hlong] at hst
            have m3 : w8.cell? ⟨n + 1 + 1 + 1, 0, none⟩ = some (.string ⟨#[]⟩) := by rw [cellOf k3]; rfl
            have m4 : w8.cell? ⟨n + 1 + 1 + 1 + 1, 0, none⟩ = some (.int .i64 0) := by rw [cellOf k4]; rfl
            have z3 : w8.frozen? ⟨n + 1 + 1 + 1, 0, none⟩ = false := frozenOf k3
            have z4 : w8.frozen? ⟨n + 1 + 1 + 1 + 1, 0, none⟩ = false := frozenOf k4
            simp (config := { maxSteps := 1000000 }) (disch := first | omega | (simp only [sizeAlloc, sizeDrew, sizeSet, sizePut] <;> omega) | fail) only [GS1, GS2, GS3, GS4, GS5, GS6, GS7, GS8, GS9, GS10, GS11, TT_eq, TTl, Nat.reduceAdd, Nat.reduceMul, Nat.reduceSub, Nat.reduceDiv, Nat.reduceMod, Nat.reducePow, Nat.reduceEqDiff, ↓reduceIte, reduceCtorEq, true_and, and_true, and_self, false_and, and_false, Int.reduceToNat, Int.reduceAdd, Int.reduceSub, Int.reduceMul, cond_true, cond_false, List.toList_toArray, Option.map_some, Option.map_none, Option.some.injEq, List.cons_append, List.nil_append, List.length_cons, List.length_nil, List.getD_cons_zero, List.getD_cons_succ, m3, m4, z3, z4]
            refine hret _ (Z1 ++ [b + 1] ++ [n + 3, n + 4]) (((hM8.mono (S' := l :: (Z1 ++ [b + 1] ++ [n + 3, n + 4])) (by intro x hx; simp only [List.mem_cons, List.mem_append] at hx ⊢; rcases hx with hx | hx | hx | hx <;> simp [hx])).set (p := ⟨n + 3, 0, none⟩) (.inl (by simp)) _).set (p := ⟨n + 4, 0, none⟩) (.inl (by simp)) _) ?_ (heapSetNe (heapSetNe hl7 (by omega)) (by omega)) ⟨hst, heapSetNe (heapSet k3) (by omega), heapSet (heapSetNe k4 (by omega))⟩
            intro x hx
            simp only [List.mem_append, List.mem_cons, List.not_mem_nil, or_false] at hx
            rcases hx with (hx | rfl) | rfl | rfl
            · exact hZf x hx
            · exact ⟨.inl (by simp), hC1⟩
            · exact ⟨.inl (by simp), .inl ⟨_, _, _, U3.a3, by decide⟩⟩
            · exact ⟨.inl (by simp), .inl ⟨_, _, _, U3.a4, by decide⟩⟩
          · rw [if_neg hlong] at hst
            simp (config := { maxSteps := 1000000 }) (disch := first | omega | (simp only [sizeAlloc, sizeDrew, sizeSet, sizePut] <;> omega) | fail) only [GS1, GS2, GS3, GS4, GS5, GS6, GS7, GS8, GS9, GS10, GS11, TT_eq, TTl, Nat.reduceAdd, Nat.reduceMul, Nat.reduceSub, Nat.reduceDiv, Nat.reduceMod, Nat.reducePow, Nat.reduceEqDiff, ↓reduceIte, reduceCtorEq, true_and, and_true, and_self, false_and, and_false, Int.reduceToNat, Int.reduceAdd, Int.reduceSub, Int.reduceMul, cond_true, cond_false, List.toList_toArray, Option.map_some, Option.map_none, Option.some.injEq, List.cons_append, List.nil_append, List.length_cons, List.length_nil, List.getD_cons_zero, List.getD_cons_succ]
            refine hcont _ (Z1 ++ [b + 1]) hM8 ?_ hl7 ⟨pb, _, hst, q3, by omega, fun h => absurd (congrArg List.length h) (by rw [List.length_append]; simp only [List.length_nil]; omega), hsuf, k0, k1, k2, k3, k4, hb8, j1', j2⟩
            intro x hx
            simp only [List.mem_append, List.mem_cons, List.not_mem_nil, or_false] at hx
            rcases hx with hx | rfl
            · exact hZf x hx
            · exact ⟨.inl (by simp), hC1⟩
        · rw [if_pos (.inr heq)] at hst
          simp (config := { maxSteps := 1000000 }) (disch := first | omega | (simp only [sizeAlloc, sizeDrew, sizeSet, sizePut] <;> omega) | fail) only [GS1, GS2, GS3, GS4, GS5, GS6, GS7, GS8, GS9, GS10, GS11, TT_eq, TTl, Nat.reduceAdd, Nat.reduceMul, Nat.reduceSub, Nat.reduceDiv, Nat.reduceMod, Nat.reducePow, Nat.reduceEqDiff, ↓reduceIte, reduceCtorEq, true_and, and_true, and_self, false_and, and_false, Int.reduceToNat, Int.reduceAdd, Int.reduceSub, Int.reduceMul, cond_true, cond_false, List.toList_toArray, Option.map_some, Option.map_none, Option.some.injEq, List.cons_append, List.nil_append, List.length_cons, List.length_nil, List.getD_cons_zero, List.getD_cons_succ, d0, d1, d3, d4, d9]
          refine ⟨by kernel_rfl, fun m => ?_⟩
          exact hcont _ [] (hM34.drewN m) (by simp) hl4 ⟨d, o, { U4.ck (CK.of (Mod.drewN m (Mod.refl [] w4))) with st := hst, suf := hsuf }⟩
    · rintro w3 D ⟨d, o, U3⟩ hM3 hD hdef
      have hst := U3.st
      rw [swp] at hst
      rw [hst] at hR
      simp only at hR
      have hdl := U3.dl
      have hol := U3.ol
      have hb2l := ltOf hbx
      refine hold_ex okT (rs := [.cell 6 9, .cell 7 25]) rfl ?_
      have d0 : w3.cell? ⟨n, 0, none⟩ = some (.string ⟨S.toArray⟩) := by rw [cellOf U3.a0]; rfl
      have d9 : w3.cell? ⟨b + 1, 0, none⟩ = some (.int .i64 d) := by rw [cellOf U3.b1]; rfl
      simp (config := { maxSteps := 1000000 }) (disch := first | omega | (simp only [sizeAlloc, sizeDrew, sizeSet, sizePut] <;> omega) | fail) only [GS1, GS2, GS3, GS4, GS5, GS6, GS7, GS8, GS9, GS10, GS11, TT_eq, TTl, Nat.reduceAdd, Nat.reduceMul, Nat.reduceSub, Nat.reduceDiv, Nat.reduceMod, Nat.reducePow, Nat.reduceEqDiff, ↓reduceIte, reduceCtorEq, true_and, and_true, and_self, false_and, and_false, Int.reduceToNat, Int.reduceAdd, Int.reduceSub, Int.reduceMul, cond_true, cond_false, List.toList_toArray, Option.map_some, Option.map_none, Option.some.injEq, List.cons_append, List.nil_append, List.length_cons, List.length_nil, List.getD_cons_zero, List.getD_cons_succ, d0, d9]
      have hlen1 : (S.drop d).length ≤ 16384 := by rw [List.length_drop]; omega
      refine ⟨fok42, bdWrite_cps b o (S.drop d) _ U3.bd (by omega) _ fun w4 hb4 hB4 => .inl ⟨_, rfl, hold_ops okT (rs := [.cell 6 9, .cell 7 25]) rfl ?_⟩⟩
      have k3 := hB4.get U3.a3 (by rintro _ _ _ h; cases h; decide)
      have k4 := hB4.get U3.a4 (by rintro _ _ _ h; cases h; decide)
      have kD := hB4.get hdef (by rintro _ _ _ h; cases h)
      simp (config := { maxSteps := 1000000 }) (disch := first | omega | (simp only [sizeAlloc, sizeDrew, sizeSet, sizePut] <;> omega) | fail) only [GS1, GS2, GS3, GS4, GS5, GS6, GS7, GS8, GS9, GS10, GS11, TT_eq, TTl, Nat.reduceAdd, Nat.reduceMul, Nat.reduceSub, Nat.reduceDiv, Nat.reduceMod, Nat.reducePow, Nat.reduceEqDiff, ↓reduceIte, reduceCtorEq, true_and, and_true, and_self, false_and, and_false, Int.reduceToNat, Int.reduceAdd, Int.reduceSub, Int.reduceMul, cond_true, cond_false, List.toList_toArray, Option.map_some, Option.map_none, Option.some.injEq, List.cons_append, List.nil_append, List.length_cons, List.length_nil, List.getD_cons_zero, List.getD_cons_succ]
      have hne : o ++ S.drop d ≠ [] := by
        intro h
        rw [List.append_eq_nil_iff] at h
        have h1 := U3.ne h.1
        subst h1
        have := congrArg List.length h.2
        simp only [List.drop_zero, List.length_nil] at this
        omega
      have hcl : (o ++ S.drop d).length ≤ 32768 := by rw [List.length_append]; omega
      have hcl' : (o ++ S.drop d).length ≤ maxLen := by unfold maxLen; omega
      generalize o ++ S.drop d = cur at hb4 hne hcl hcl' hR ⊢
      refine ⟨fok44, bdString_cps b cur _ hb4 hne _ fun w5 hb5 hB5 => .inl ⟨_, rfl, hold_ops okT (rs := [.cell 6 9, .cell 7 25]) rfl ?_⟩⟩
      replace k3 := hB5.get k3 (by rintro _ _ _ h; cases h; decide)
      replace k4 := hB5.get k4 (by rintro _ _ _ h; cases h; decide)
      replace kD := hB5.get kD (by rintro _ _ _ h; cases h)
      simp (config := { maxSteps := 1000000 }) (disch := first | omega | (simp only [sizeAlloc, sizeDrew, sizeSet, sizePut] <;> omega) | fail) only [GS1, GS2, GS3, GS4, GS5, GS6, GS7, GS8, GS9, GS10, GS11, TT_eq, TTl, Nat.reduceAdd, Nat.reduceMul, Nat.reduceSub, Nat.reduceDiv, Nat.reduceMod, Nat.reducePow, Nat.reduceEqDiff, ↓reduceIte, reduceCtorEq, true_and, and_true, and_self, false_and, and_false, Int.reduceToNat, Int.reduceAdd, Int.reduceSub, Int.reduceMul, cond_true, cond_false, List.toList_toArray, Option.map_some, Option.map_none, Option.some.injEq, List.cons_append, List.nil_append, List.length_cons, List.length_nil, List.getD_cons_zero, List.getD_cons_succ]
      refine ⟨fok40, tIs1_cps cur hcl' w5 _ rfl _ fun w6 hM => .inl ⟨_, rfl, hold_ops okT (rs := [.cell 6 9, .cell 7 25]) rfl ?_⟩⟩
      have hM6 := ((Mod.refl [] w5).alloc _).trans hM (by simp)
      replace k3 := hM6.get k3 (by simp)
      replace k4 := hM6.get k4 (by simp)
      replace kD := hM6.get kD (by simp)
      have hb6 := hb5.mod hM6 (by simp)
      have hB35 := hB4.trans hB5
      by_cases he : checkS cur = 0
      · rw [decide_eq_true he]
        rw [if_pos he] at hR
        simp (config := { maxSteps := 1000000 }) (disch := first | omega | (simp only [sizeAlloc, sizeDrew, sizeSet, sizePut] <;> omega) | fail) only [GS1, GS2, GS3, GS4, GS5, GS6, GS7, GS8, GS9, GS10, GS11, TT_eq, TTl, Nat.reduceAdd, Nat.reduceMul, Nat.reduceSub, Nat.reduceDiv, Nat.reduceMod, Nat.reducePow, Nat.reduceEqDiff, ↓reduceIte, reduceCtorEq, true_and, and_true, and_self, false_and, and_false, Int.reduceToNat, Int.reduceAdd, Int.reduceSub, Int.reduceMul, cond_true, cond_false, List.toList_toArray, Option.map_some, Option.map_none, Option.some.injEq, List.cons_append, List.nil_append, List.length_cons, List.length_nil, List.getD_cons_zero, List.getD_cons_succ]
        refine ⟨fok44, bdString_cps b cur _ hb6 hne _ fun w7 hb7 hB7 => .inl ⟨_, rfl, hold_ops okT (rs := [.cell 6 9, .cell 7 25]) rfl ?_⟩⟩
        replace k3 := hB7.get k3 (by rintro _ _ _ h; cases h; decide)
        replace k4 := hB7.get k4 (by rintro _ _ _ h; cases h; decide)
        replace kD := hB7.get kD (by rintro _ _ _ h; cases h)
        have m3 : w7.cell? ⟨n + 1 + 1 + 1, 0, none⟩ = some (.string ⟨#[]⟩) := by rw [cellOf k3]; rfl
        have m4 : w7.cell? ⟨n + 1 + 1 + 1 + 1, 0, none⟩ = some (.int .i64 0) := by rw [cellOf k4]; rfl
        have z3 : w7.frozen? ⟨n + 1 + 1 + 1, 0, none⟩ = false := frozenOf k3
        have z4 : w7.frozen? ⟨n + 1 + 1 + 1 + 1, 0, none⟩ = false := frozenOf k4
        simp (config := { maxSteps := 1000000 }) (disch := first | omega | (simp only [sizeAlloc, sizeDrew, sizeSet, sizePut] <;> omega) | fail) only [GS1, GS2, GS3, GS4, GS5, GS6, GS7, GS8, GS9, GS10, GS11, TT_eq, TTl, Nat.reduceAdd, Nat.reduceMul, Nat.reduceSub, Nat.reduceDiv, Nat.reduceMod, Nat.reducePow, Nat.reduceEqDiff, ↓reduceIte, reduceCtorEq, true_and, and_true, and_self, false_and, and_false, Int.reduceToNat, Int.reduceAdd, Int.reduceSub, Int.reduceMul, cond_true, cond_false, List.toList_toArray, Option.map_some, Option.map_none, Option.some.injEq, List.cons_append, List.nil_append, List.length_cons, List.length_nil, List.getD_cons_zero, List.getD_cons_succ, m3, m4, z3, z4]
        have hm3 : ((w7.setCell ⟨n + 1 + 1 + 1, 0, none⟩ (.string ⟨cur.toArray⟩)).setCell ⟨n + 1 + 1 + 1 + 1, 0, none⟩ (.int .i64 0)).heap[n + 1 + 1 + 1]? = some (.cells #[.string ⟨cur.toArray⟩] 9 (0, 0)) := heapSetNe (heapSet k3) (by omega)
        have hm4 : ((w7.setCell ⟨n + 1 + 1 + 1, 0, none⟩ (.string ⟨cur.toArray⟩)).setCell ⟨n + 1 + 1 + 1 + 1, 0, none⟩ (.int .i64 0)).heap[n + 1 + 1 + 1 + 1]? = some (.cells #[.int .i64 0] 25 (0, 0)) := heapSet (heapSetNe k4 (by omega))
        have hmD : ((w7.setCell ⟨n + 1 + 1 + 1, 0, none⟩ (.string ⟨cur.toArray⟩)).setCell ⟨n + 1 + 1 + 1 + 1, 0, none⟩ (.int .i64 0)).heap[D]? = some (.deferred (some [])) := heapSetNe (heapSetNe kD (by omega)) (by omega)
        have hM8 : Mod [n + 3, n + 4] w7 ((w7.setCell ⟨n + 1 + 1 + 1, 0, none⟩ (.string ⟨cur.toArray⟩)).setCell ⟨n + 1 + 1 + 1 + 1, 0, none⟩ (.int .i64 0)) := ((Mod.refl _ _).set (p := ⟨n + 1 + 1 + 1, 0, none⟩) (.inl (by simp)) _).set (p := ⟨n + 1 + 1 + 1 + 1, 0, none⟩) (.inl (by simp)) _
        generalize ((w7.setCell ⟨n + 1 + 1 + 1, 0, none⟩ (.string ⟨cur.toArray⟩)).setCell ⟨n + 1 + 1 + 1 + 1, 0, none⟩ (.int .i64 0)) = w8 at hm3 hm4 hmD hM8 ⊢
        refine ⟨D, rfl, hmD, ?_⟩
        have hM9 : Mod [D] w8 (w8.putObj D (.deferred none)) := (Mod.refl _ _).put (.inl (by simp)) _
        replace hm3 := hM9.get hm3 (by simp; omega)
        replace hm4 := hM9.get hm4 (by simp; omega)
        generalize w8.putObj D (.deferred none) = w9 at hm3 hm4 hM9 ⊢
        have c3 := cellOf (o := 0) hm3
        have c4 := cellOf (o := 0) hm4
        simp (config := { maxSteps := 1000000 }) only [GS1, GS2, GS3, GS4, GS5, GS6, GS7, GS8, GS9, GS10, GS11, TT_eq, TTl, Nat.reduceAdd, Nat.reduceMul, Nat.reduceSub, Nat.reduceDiv, Nat.reduceMod, Nat.reducePow, Nat.reduceEqDiff, ↓reduceIte, reduceCtorEq, true_and, and_true, and_self, false_and, and_false, Int.reduceToNat, Int.reduceAdd, Int.reduceSub, Int.reduceMul, cond_true, cond_false, List.toList_toArray, Option.map_some, Option.map_none, Option.some.injEq, List.cons_append, List.nil_append, List.length_cons, List.length_nil, List.getD_cons_zero, List.getD_cons_succ, leaveW, loadW, c3, c4]
        refine ⟨_, rfl, _, rfl, hR _ ?_⟩
        have s2 := hMw2.size
        have hM23 : Mod [] w w3 := hMw2.trans hM3 (fun x hx => .inr (by simp only [List.mem_cons, List.not_mem_nil, or_false] at hx; omega))
        exact ((Mod.under ((Mod.under hM23 (hB35.below (Nat.le_of_lt U3.bd.lt)) (by omega)).trans hM6 (by simp)) (hB7.below (Nat.le_of_lt hb6.lt)) (by omega)).trans hM8 (fun x hx => .inr (by simp only [List.mem_cons, List.not_mem_nil, or_false] at hx; omega))).trans hM9 (fun x hx => .inr (by simp only [List.mem_cons, List.not_mem_nil, or_false] at hx; omega))
      · rw [decide_eq_false he]
        rw [if_neg he] at hR
        have m3 : w6.cell? ⟨n + 1 + 1 + 1, 0, none⟩ = some (.string ⟨#[]⟩) := by rw [cellOf k3]; rfl
        have m4 : w6.cell? ⟨n + 1 + 1 + 1 + 1, 0, none⟩ = some (.int .i64 0) := by rw [cellOf k4]; rfl
        have z3 : w6.frozen? ⟨n + 1 + 1 + 1, 0, none⟩ = false := frozenOf k3
        have z4 : w6.frozen? ⟨n + 1 + 1 + 1 + 1, 0, none⟩ = false := frozenOf k4
        simp (config := { maxSteps := 1000000 }) (disch := first | omega | (simp only [sizeAlloc, sizeDrew, sizeSet, sizePut] <;> omega) | fail) only [GS1, GS2, GS3, GS4, GS5, GS6, GS7, GS8, GS9, GS10, GS11, TT_eq, TTl, Nat.reduceAdd, Nat.reduceMul, Nat.reduceSub, Nat.reduceDiv, Nat.reduceMod, Nat.reducePow, Nat.reduceEqDiff, ↓reduceIte, reduceCtorEq, true_and, and_true, and_self, false_and, and_false, Int.reduceToNat, Int.reduceAdd, Int.reduceSub, Int.reduceMul, cond_true, cond_false, List.toList_toArray, Option.map_some, Option.map_none, Option.some.injEq, List.cons_append, List.nil_append, List.length_cons, List.length_nil, List.getD_cons_zero, List.getD_cons_succ, m3, m4, z3, z4]
        have hm3 : ((w6.setCell ⟨n + 1 + 1 + 1, 0, none⟩ (.string ⟨([] : List UInt8).toArray⟩)).setCell ⟨n + 1 + 1 + 1 + 1, 0, none⟩ (.int .i64 5)).heap[n + 1 + 1 + 1]? = some (.cells #[.string ⟨([] : List UInt8).toArray⟩] 9 (0, 0)) := heapSetNe (heapSet k3) (by omega)
        have hm4 : ((w6.setCell ⟨n + 1 + 1 + 1, 0, none⟩ (.string ⟨([] : List UInt8).toArray⟩)).setCell ⟨n + 1 + 1 + 1 + 1, 0, none⟩ (.int .i64 5)).heap[n + 1 + 1 + 1 + 1]? = some (.cells #[.int .i64 5] 25 (0, 0)) := heapSet (heapSetNe k4 (by omega))
        have hmD : ((w6.setCell ⟨n + 1 + 1 + 1, 0, none⟩ (.string ⟨([] : List UInt8).toArray⟩)).setCell ⟨n + 1 + 1 + 1 + 1, 0, none⟩ (.int .i64 5)).heap[D]? = some (.deferred (some [])) := heapSetNe (heapSetNe kD (by omega)) (by omega)
        have hM8 : Mod [n + 3, n + 4] w6 ((w6.setCell ⟨n + 1 + 1 + 1, 0, none⟩ (.string ⟨([] : List UInt8).toArray⟩)).setCell ⟨n + 1 + 1 + 1 + 1, 0, none⟩ (.int .i64 5)) := ((Mod.refl _ _).set (p := ⟨n + 1 + 1 + 1, 0, none⟩) (.inl (by simp)) _).set (p := ⟨n + 1 + 1 + 1 + 1, 0, none⟩) (.inl (by simp)) _
        generalize ((w6.setCell ⟨n + 1 + 1 + 1, 0, none⟩ (.string ⟨([] : List UInt8).toArray⟩)).setCell ⟨n + 1 + 1 + 1 + 1, 0, none⟩ (.int .i64 5)) = w8 at hm3 hm4 hmD hM8 ⊢
        refine ⟨D, rfl, hmD, ?_⟩
        have hM9 : Mod [D] w8 (w8.putObj D (.deferred none)) := (Mod.refl _ _).put (.inl (by simp)) _
        replace hm3 := hM9.get hm3 (by simp; omega)
        replace hm4 := hM9.get hm4 (by simp; omega)
        generalize w8.putObj D (.deferred none) = w9 at hm3 hm4 hM9 ⊢
        have c3 := cellOf (o := 0) hm3
        have c4 := cellOf (o := 0) hm4
        simp (config := { maxSteps := 1000000 }) only [GS1, GS2, GS3, GS4, GS5, GS6, GS7, GS8, GS9, GS10, GS11, TT_eq, TTl, Nat.reduceAdd, Nat.reduceMul, Nat.reduceSub, Nat.reduceDiv, Nat.reduceMod, Nat.reducePow, Nat.reduceEqDiff, ↓reduceIte, reduceCtorEq, true_and, and_true, and_self, false_and, and_false, Int.reduceToNat, Int.reduceAdd, Int.reduceSub, Int.reduceMul, cond_true, cond_false, List.toList_toArray, Option.map_some, Option.map_none, Option.some.injEq, List.cons_append, List.nil_append, List.length_cons, List.length_nil, List.getD_cons_zero, List.getD_cons_succ, leaveW, loadW, c3, c4]
        refine ⟨_, rfl, _, rfl, hR _ ?_⟩
        have s2 := hMw2.size
        have hM23 : Mod [] w w3 := hMw2.trans hM3 (fun x hx => .inr (by simp only [List.mem_cons, List.not_mem_nil, or_false] at hx; omega))
        exact (((Mod.under hM23 (hB35.below (Nat.le_of_lt U3.bd.lt)) (by omega)).trans hM6 (by simp)).trans hM8 (fun x hx => .inr (by simp only [List.mem_cons, List.not_mem_nil, or_false] at hx; omega))).trans hM9 (fun x hx => .inr (by simp only [List.mem_cons, List.not_mem_nil, or_false] at hx; omega))
    · rintro w3 D ⟨hno, hN3, hN4⟩ hM3 hD hdef
      rw [hno] at hR
      refine hold_ex okT (rs := [.cell 6 9, .cell 7 25]) rfl ?_
      simp (config := { maxSteps := 1000000 }) (disch := first | omega | (simp only [sizeAlloc, sizeDrew, sizeSet, sizePut] <;> omega) | fail) only [GS1, GS2, GS3, GS4, GS5, GS6, GS7, GS8, GS9, GS10, GS11, TT_eq, TTl, Nat.reduceAdd, Nat.reduceMul, Nat.reduceSub, Nat.reduceDiv, Nat.reduceMod, Nat.reducePow, Nat.reduceEqDiff, ↓reduceIte, reduceCtorEq, true_and, and_true, and_self, false_and, and_false, Int.reduceToNat, Int.reduceAdd, Int.reduceSub, Int.reduceMul, cond_true, cond_false, List.toList_toArray, Option.map_some, Option.map_none, Option.some.injEq, List.cons_append, List.nil_append, List.length_cons, List.length_nil, List.getD_cons_zero, List.getD_cons_succ]
      have hne3 : n + 1 + 1 + 1 ≠ D := by omega
      have hne4 : n + 1 + 1 + 1 + 1 ≠ D := by omega
      refine ⟨D, rfl, hdef, ?_⟩
      have hM5 : Mod [b, b + 1, n + 3, n + 4, D] w2 _ := (hM3.mono (S' := [b, b + 1, n + 3, n + 4, D]) (by intro x hx; simp only [List.mem_cons, List.not_mem_nil, or_false] at hx ⊢; rcases hx with h | h | h | h <;> simp [h])).put (l := D) (.inl (by simp)) (.deferred none)
      generalize hW : w3.putObj D (.deferred none) = w5 at hM5 ⊢
      have hn3 : w5.heap[n + 1 + 1 + 1]? = some (.cells #[.string ⟨#[]⟩] 9 (0, 0)) := by rw [← hW, heapPn hne3]; exact hN3
      have hn4 : w5.heap[n + 1 + 1 + 1 + 1]? = some (.cells #[.int .i64 5] 25 (0, 0)) := by rw [← hW, heapPn hne4]; exact hN4
      have c3 := cellOf (o := 0) hn3
      have c4 := cellOf (o := 0) hn4
      simp (config := { maxSteps := 1000000 }) only [GS1, GS2, GS3, GS4, GS5, GS6, GS7, GS8, GS9, GS10, GS11, TT_eq, TTl, Nat.reduceAdd, Nat.reduceMul, Nat.reduceSub, Nat.reduceDiv, Nat.reduceMod, Nat.reducePow, Nat.reduceEqDiff, ↓reduceIte, reduceCtorEq, true_and, and_true, and_self, false_and, and_false, Int.reduceToNat, Int.reduceAdd, Int.reduceSub, Int.reduceMul, cond_true, cond_false, List.toList_toArray, Option.map_some, Option.map_none, Option.some.injEq, List.cons_append, List.nil_append, List.length_cons, List.length_nil, List.getD_cons_zero, List.getD_cons_succ, leaveW, loadW, c3, c4]
      refine ⟨_, rfl, _, rfl, hR _ (hMw2.trans hM5 ?_)⟩
      intro x hx
      simp only [List.mem_cons, List.not_mem_nil, or_false] at hx
      have := hMw2.size
      omega
  · rw [decide_eq_false h]
    rw [if_neg h] at hR
    simp (config := { maxSteps := 1000000 }) (disch := first | omega | (simp only [sizeAlloc, sizeDrew, sizeSet, sizePut] <;> omega) | fail) only [GS1, GS2, GS3, GS4, GS5, GS6, GS7, GS8, GS9, GS10, GS11, TT_eq, TTl, Nat.reduceAdd, Nat.reduceMul, Nat.reduceSub, Nat.reduceDiv, Nat.reduceMod, Nat.reducePow, Nat.reduceEqDiff, ↓reduceIte, reduceCtorEq, true_and, and_true, and_self, false_and, and_false, Int.reduceToNat, Int.reduceAdd, Int.reduceSub, Int.reduceMul, cond_true, cond_false, List.toList_toArray, Option.map_some, Option.map_none, Option.some.injEq, List.cons_append, List.nil_append, List.length_cons, List.length_nil, List.getD_cons_zero, List.getD_cons_succ, c3, f3, c4, f4, leaveW, loadW]
    exact ⟨_, rfl, _, rfl, hR _ ((hMw.set (p := ⟨_, 0, none⟩) (.inr (by simp; omega)) _).set (p := ⟨_, 0, none⟩) (.inr (by simp; omega)) _)⟩
end Go.Proofs.Ytfobkimmpiahjaa
