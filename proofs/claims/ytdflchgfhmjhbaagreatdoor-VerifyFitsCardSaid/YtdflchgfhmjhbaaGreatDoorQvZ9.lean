/-
  receipt.decode (walk). Rows of texts that are the same; whether a text stands in a row (walks).
-/
import Derived.Test.YtdflchgfhmjhbaaGreatDoorQvZ8
import Derived.Test.YtdflchgfhmjhbaaGreatDoorQvZ2
set_option linter.unusedSimpArgs false
set_option linter.unusedVariables false
namespace Go.Proofs.YtdflchgfhmjhbaaGreatDoor
set_option maxHeartbeats 32000000
set_option maxRecDepth 20000
open Go Go.Wk Go.RowKit
attribute [local irreducible] go Hold
open Go.Lib
theorem eDec_cps (S : List UInt8) (hS : S.length ≤ maxLen) (w : World) (R : Ending → World → Prop)
    (h1 : ∀ r sm st w', decRc S = .ok r → w'.ownsRow w.heap.size 84 2 sm r.mbs.length (r.mbs.flatMap mbC) → w'.ownsRow w.heap.size 9 1 st r.tags.length (r.tags.map strV) → Mod [] w w' → R (.returned (rcV r sm st)) w') (h0 : ∀ c w', decRc S = .error c → Mod [] w w' → R (.panicked (rwV c)) w') :
    Calls Tryz.prog 83 #[.string ⟨S.toArray⟩] w R := by
  generalize hX : decRc S = X at h1 h0
  unfold decRc at hX
  refine calls_go 4000 okT Tryz.func83 rfl (rs := [.cell 2 27]) rfl Tryz.ntmps83 (args := [.string ⟨S.toArray⟩]) ?_
  by_cases hl : (((S.length : Nat) : Int) ≤ 16384)
  rotate_left
  · rw [if_pos (by omega)] at hX
    simp (maxSteps := 1000000) (disch := first | omega | (simp only [sizeAlloc, sizeDrew, sizeSet, sizePut] <;> omega) | fail) only [GS, TT_eq, TTl, Nat.reduceAdd, Nat.reduceMul, Nat.reduceSub, Nat.reduceDiv, Nat.reduceMod, Nat.reducePow, Nat.reduceEqDiff, ↓reduceIte, reduceCtorEq, Int.reduceToNat, Int.reduceAdd, Int.reduceSub, Int.reduceMul, hl]
    refine ⟨fok76, eMust_cps _ 5 _ _ (fun h => absurd h (by simp)) (fun _ => .inr ⟨_, rfl, hold_ex okT (rs := [.cell 2 27]) rfl ?_⟩)⟩
    simp (maxSteps := 1000000) (disch := first | omega | (simp only [sizeAlloc, sizeDrew, sizeSet, sizePut] <;> omega) | fail) only [GS, TT_eq, TTl, Nat.reduceAdd, Nat.reduceMul, Nat.reduceSub, Nat.reduceDiv, Nat.reduceMod, Nat.reducePow, Nat.reduceEqDiff, ↓reduceIte, reduceCtorEq, Int.reduceToNat, Int.reduceAdd, Int.reduceSub, Int.reduceMul]
    exact h0 5 _ hX.symm ((Mod.refl [] w).alloc _)
  rw [if_neg (by omega)] at hX
  simp (maxSteps := 1000000) (disch := first | omega | (simp only [sizeAlloc, sizeDrew, sizeSet, sizePut] <;> omega) | fail) only [GS, TT_eq, TTl, Nat.reduceAdd, Nat.reduceMul, Nat.reduceSub, Nat.reduceDiv, Nat.reduceMod, Nat.reducePow, Nat.reduceEqDiff, ↓reduceIte, reduceCtorEq, Int.reduceToNat, Int.reduceAdd, Int.reduceSub, Int.reduceMul, hl]
  have hM0 := (Mod.refl [] w).alloc (.cells #[.int .i64 0, .int .i64 0, .int .i64 0, .int .i64 0, .slice none 0 0, .slice none 0 0] 27)
  have hh := heapNew (w := w) (o := .cells #[.int .i64 0, .int .i64 0, .int .i64 0, .int .i64 0, .slice none 0 0, .slice none 0 0] 27)
  generalize w.alloc (.cells #[.int .i64 0, .int .i64 0, .int .i64 0, .int .i64 0, .slice none 0 0, .slice none 0 0] 27) = w1 at hM0 hh ⊢
  generalize hn : w.heap.size = n at *
  have hge : w.heap.size ≤ n := by omega
  have hnl := (Array.getElem?_eq_some_iff.1 hh).1
  refine ⟨fok76, eMust_cps _ 5 _ _ (fun _ => .inl ⟨_, rfl, hold_ops okT (rs := [.cell 2 27]) rfl ?_⟩) (fun h => absurd h (by simp))⟩
  simp (maxSteps := 1000000) (disch := first | omega | (simp only [sizeAlloc, sizeDrew, sizeSet, sizePut] <;> omega) | fail) only [GS, TT_eq, TTl, Nat.reduceAdd, Nat.reduceMul, Nat.reduceSub, Nat.reduceDiv, Nat.reduceMod, Nat.reducePow, Nat.reduceEqDiff, ↓reduceIte, reduceCtorEq, Int.reduceToNat, Int.reduceAdd, Int.reduceSub, Int.reduceMul]
  refine ⟨fok112, eRow_cps S 5 (by decide) (by decide) hS _ _ (fun l lv w2 hl hlo hM2 => .inl ⟨_, rfl, hold_ops okT (rs := [.cell 2 27]) rfl ?_⟩) (fun hl w2 hM2 => .inr ⟨_, rfl, hold_ex okT (rs := [.cell 2 27]) rfl ?_⟩)⟩
  rotate_left
  · rw [hl] at hX
    simp (maxSteps := 1000000) (disch := first | omega | (simp only [sizeAlloc, sizeDrew, sizeSet, sizePut] <;> omega) | fail) only [GS, TT_eq, TTl, Nat.reduceAdd, Nat.reduceMul, Nat.reduceSub, Nat.reduceDiv, Nat.reduceMod, Nat.reducePow, Nat.reduceEqDiff, ↓reduceIte, reduceCtorEq, Int.reduceToNat, Int.reduceAdd, Int.reduceSub, Int.reduceMul]
    exact h0 7 _ hX.symm (hM0.trans hM2 (by simp))
  rw [hl] at hX
  simp only at hX
  obtain ⟨-, -, hl5, hpc, -⟩ := rowR_is hl
  obtain ⟨t0, t1, t2, t3, t4, rfl⟩ := len5 (show l.length = 5 by omega)
  simp only [List.getD_cons_zero, List.getD_cons_succ] at hX
  unfold decL at hX
  have z0 := (check0 (hpc t0 (by simp))).2.2.1
  have z1 := (check0 (hpc t1 (by simp))).2.2.1
  have z2 := (check0 (hpc t2 (by simp))).2.2.1
  have z3 := (check0 (hpc t3 (by simp))).2.2.1
  have z4 := (check0 (hpc t4 (by simp))).2.2.1
  have hh2 := hM2.get hh (by simp)
  have hM02 := hM0.trans hM2 (by simp)
  obtain ⟨b1, o1, c1, e1, hc1, g1⟩ := (Rd.own hlo).at (by simp) (by simp)
  have f0 : w2.cell? ⟨b1, o1, none⟩ = some (.string ⟨t0.toArray⟩) := g1 0 _ rfl
  have f1 : w2.cell? ⟨b1, o1 + 1, none⟩ = some (.string ⟨t1.toArray⟩) := g1 1 _ rfl
  have f2 : w2.cell? ⟨b1, o1 + 2, none⟩ = some (.string ⟨t2.toArray⟩) := g1 2 _ rfl
  have f3 : w2.cell? ⟨b1, o1 + 3, none⟩ = some (.string ⟨t3.toArray⟩) := g1 3 _ rfl
  have f4 : w2.cell? ⟨b1, o1 + 4, none⟩ = some (.string ⟨t4.toArray⟩) := g1 4 _ rfl
  subst e1
  have hb1 : n < b1 ∧ b1 < w2.heap.size := by
    have h3 := hlo.lt b1 (by simp [Value.ownBlock])
    omega
  clear hlo g1 hl hM0 hM2 hh
  simp (maxSteps := 1000000) (disch := first | omega | (simp only [sizeAlloc, sizeDrew, sizeSet, sizePut] <;> omega) | fail) only [GS, TT_eq, TTl, Nat.reduceAdd, Nat.reduceMul, Nat.reduceSub, Nat.reduceDiv, Nat.reduceMod, Nat.reducePow, Nat.reduceEqDiff, ↓reduceIte, reduceCtorEq, Int.reduceToNat, Int.reduceAdd, Int.reduceSub, Int.reduceMul]
  refine hold_draw okT (rs := [.cell 2 27]) rfl [0, 1, 3, 0, 8, 8, 56, 127, 255] [0, 1, 2, 3, 4, 5, 6, 7, 8] (by kernel_rfl) (by kernel_rfl) ?_
  have hh3 : (w2.drewN 1).heap[n]? = _ := hh2
  have f0 : (w2.drewN 1).cell? ⟨b1, o1, none⟩ = some (.string ⟨t0.toArray⟩) := f0
  have f1 : (w2.drewN 1).cell? ⟨b1, o1 + 1, none⟩ = some (.string ⟨t1.toArray⟩) := f1
  have f2 : (w2.drewN 1).cell? ⟨b1, o1 + 2, none⟩ = some (.string ⟨t2.toArray⟩) := f2
  have f3 : (w2.drewN 1).cell? ⟨b1, o1 + 3, none⟩ = some (.string ⟨t3.toArray⟩) := f3
  have f4 : (w2.drewN 1).cell? ⟨b1, o1 + 4, none⟩ = some (.string ⟨t4.toArray⟩) := f4
  have hM03 := hM02.drewN 1
  have hb1 : n < b1 ∧ b1 < (w2.drewN 1).heap.size := hb1
  generalize w2.drewN 1 = w3 at *
  simp (maxSteps := 1000000) (disch := first | omega | (simp only [sizeAlloc, sizeDrew, sizeSet, sizePut] <;> omega) | fail) only [GS, TT_eq, TTl, Nat.reduceAdd, Nat.reduceMul, Nat.reduceSub, Nat.reduceDiv, Nat.reduceMod, Nat.reducePow, Nat.reduceEqDiff, ↓reduceIte, reduceCtorEq, Int.reduceToNat, Int.reduceAdd, Int.reduceSub, Int.reduceMul, f0]
  have hDt := tData_cps RW (by unfold maxLen; decide)
  rw [dRW] at hDt
  generalize hD : (dataS RW).1 = D at hDt hX
  unfold stV RW at hDt
  simp only at hDt
  refine ⟨fok40, hDt _ _ fun w4 hM4 => .inl ⟨_, rfl, ?_⟩⟩
  first | refine ⟨cellM f0 hM4, hold_dops okT (rs := [.cell 2 27]) rfl ?_⟩ | refine hold_dops okT (rs := [.cell 2 27]) rfl ?_
  simp (maxSteps := 1000000) (disch := first | omega | (simp only [sizeAlloc, sizeDrew, sizeSet, sizePut] <;> omega) | fail) only [GS, TT_eq, TTl, Nat.reduceAdd, Nat.reduceMul, Nat.reduceSub, Nat.reduceDiv, Nat.reduceMod, Nat.reducePow, Nat.reduceEqDiff, ↓reduceIte, reduceCtorEq, Int.reduceToNat, Int.reduceAdd, Int.reduceSub, Int.reduceMul]
  refine ⟨fok38, eMade_cps D 0 _ _ (fun _ => .inl ⟨_, rfl, ?_⟩) (fun h => absurd rfl h)⟩
  first | refine ⟨cellM f0 hM4, hold_dops okT (rs := [.cell 2 27]) rfl ?_⟩ | refine hold_dops okT (rs := [.cell 2 27]) rfl ?_
  have hh4 := hM4.get hh3 (by simp)
  have hM04 := hM03.trans hM4 (by simp)
  have f1 := cellM f1 hM4
  have f2 := cellM f2 hM4
  have f3 := cellM f3 hM4
  have f4 := cellM f4 hM4
  have hb1 : n < b1 ∧ b1 < w4.heap.size := ⟨hb1.1, Nat.lt_of_lt_of_le hb1.2 hM4.size⟩
  clear f0 hh2 hh3 hM4 hM02 hM03
  by_cases h0D : t0 = D
  rotate_left
  · rw [if_neg h0D] at hX
    simp (maxSteps := 1000000) (disch := first | omega | (simp only [sizeAlloc, sizeDrew, sizeSet, sizePut] <;> omega) | fail) only [GS, TT_eq, TTl, Nat.reduceAdd, Nat.reduceMul, Nat.reduceSub, Nat.reduceDiv, Nat.reduceMod, Nat.reducePow, Nat.reduceEqDiff, ↓reduceIte, reduceCtorEq, Int.reduceToNat, Int.reduceAdd, Int.reduceSub, Int.reduceMul, h0D]
    refine ⟨fok76, eMust_cps _ 7 _ _ (fun h => absurd h (by simp)) (fun _ => .inr ⟨_, rfl, ?_⟩)⟩
    first | refine fun fs' => hold_ex okT (rs := [.cell 2 27]) rfl ?_ | refine hold_ex okT (rs := [.cell 2 27]) rfl ?_
    simp (maxSteps := 1000000) (disch := first | omega | (simp only [sizeAlloc, sizeDrew, sizeSet, sizePut] <;> omega) | fail) only [GS, TT_eq, TTl, Nat.reduceAdd, Nat.reduceMul, Nat.reduceSub, Nat.reduceDiv, Nat.reduceMod, Nat.reducePow, Nat.reduceEqDiff, ↓reduceIte, reduceCtorEq, Int.reduceToNat, Int.reduceAdd, Int.reduceSub, Int.reduceMul]
    exact h0 7 _ hX.symm hM04
  rw [if_pos h0D] at hX
  simp (maxSteps := 1000000) (disch := first | omega | (simp only [sizeAlloc, sizeDrew, sizeSet, sizePut] <;> omega) | fail) only [GS, TT_eq, TTl, Nat.reduceAdd, Nat.reduceMul, Nat.reduceSub, Nat.reduceDiv, Nat.reduceMod, Nat.reducePow, Nat.reduceEqDiff, ↓reduceIte, reduceCtorEq, Int.reduceToNat, Int.reduceAdd, Int.reduceSub, Int.reduceMul, h0D]
  refine ⟨fok76, eMust_cps _ 7 _ _ (fun _ => .inl ⟨_, rfl, ?_⟩) (fun h => absurd h (by simp))⟩
  refine hold_dops okT (rs := [.cell 2 27]) rfl ?_
  simp (maxSteps := 1000000) (disch := first | omega | (simp only [sizeAlloc, sizeDrew, sizeSet, sizePut] <;> omega) | fail) only [GS, TT_eq, TTl, Nat.reduceAdd, Nat.reduceMul, Nat.reduceSub, Nat.reduceDiv, Nat.reduceMod, Nat.reducePow, Nat.reduceEqDiff, ↓reduceIte, reduceCtorEq, Int.reduceToNat, Int.reduceAdd, Int.reduceSub, Int.reduceMul, f1]
  refine ⟨fok113, wReadTxn_cps t1 (by unfold maxLen; omega) _ _ (fun x w5 hx hM5 => .inl ⟨_, rfl, hold_ops okT (rs := [.cell 2 27]) rfl ?_⟩) (fun hx w5 hM5 => .inl ⟨_, rfl, hold_ops okT (rs := [.cell 2 27]) rfl ?_⟩)⟩
  rotate_left
  · rw [hx] at hX
    simp only at hX
    unfold txV
    simp (maxSteps := 1000000) (disch := first | omega | (simp only [sizeAlloc, sizeDrew, sizeSet, sizePut] <;> omega) | fail) only [GS, TT_eq, TTl, Nat.reduceAdd, Nat.reduceMul, Nat.reduceSub, Nat.reduceDiv, Nat.reduceMod, Nat.reducePow, Nat.reduceEqDiff, ↓reduceIte, reduceCtorEq, Int.reduceToNat, Int.reduceAdd, Int.reduceSub, Int.reduceMul]
    have hM05 := hM04.trans hM5 (by simp)
    have hs5 := hM05.size
    refine ⟨fok76, eMust_cps _ 7 _ _ (fun h => absurd h (by simp)) (fun _ => .inr ⟨_, rfl, hold_ex okT (rs := [.cell 2 27]) rfl ?_⟩)⟩
    simp (maxSteps := 1000000) (disch := first | omega | (simp only [sizeAlloc, sizeDrew, sizeSet, sizePut] <;> omega) | fail) only [GS, TT_eq, TTl, Nat.reduceAdd, Nat.reduceMul, Nat.reduceSub, Nat.reduceDiv, Nat.reduceMod, Nat.reducePow, Nat.reduceEqDiff, ↓reduceIte, reduceCtorEq, Int.reduceToNat, Int.reduceAdd, Int.reduceSub, Int.reduceMul]
    exact h0 7 _ hX.symm ((((hM05.alloc (.cells #[.int .i64 0, .int .i64 0, .int .i64 0] 23)).set (p := ⟨w5.heap.size, 0, none⟩) (.inr hs5) _).set (p := ⟨w5.heap.size, 1, none⟩) (.inr hs5) _).set (p := ⟨w5.heap.size, 2, none⟩) (.inr hs5) _)
  rw [hx] at hX
  simp only at hX
  have hMM := wReadMembers_cps x t3 (by unfold maxLen; omega)
  obtain ⟨x1, x2, x3⟩ := x
  unfold txV at hMM ⊢
  simp only at hMM ⊢
  simp (maxSteps := 1000000) (disch := first | omega | (simp only [sizeAlloc, sizeDrew, sizeSet, sizePut] <;> omega) | fail) only [GS, TT_eq, TTl, Nat.reduceAdd, Nat.reduceMul, Nat.reduceSub, Nat.reduceDiv, Nat.reduceMod, Nat.reducePow, Nat.reduceEqDiff, ↓reduceIte, reduceCtorEq, Int.reduceToNat, Int.reduceAdd, Int.reduceSub, Int.reduceMul]
  have hb5 := st3 (heapNew (w := w5) (o := .cells #[.int .i64 0, .int .i64 0, .int .i64 0] 23)) (x := .int .i64 x1) (y := .int .i64 x2) (z := .int .i64 x3)
  have hM56 : Mod [] w5 ((((w5.alloc (.cells #[.int .i64 0, .int .i64 0, .int .i64 0] 23)).setCell ⟨w5.heap.size, 0, none⟩ (.int .i64 x1)).setCell ⟨w5.heap.size, 1, none⟩ (.int .i64 x2)).setCell ⟨w5.heap.size, 2, none⟩ (.int .i64 x3)) := ((((Mod.refl [] w5).alloc (.cells #[.int .i64 0, .int .i64 0, .int .i64 0] 23)).set (p := ⟨w5.heap.size, 0, none⟩) (.inr (Nat.le_refl _)) (.int .i64 x1)).set (p := ⟨w5.heap.size, 1, none⟩) (.inr (Nat.le_refl _)) (.int .i64 x2)).set (p := ⟨w5.heap.size, 2, none⟩) (.inr (Nat.le_refl _)) (.int .i64 x3)
  have hM46 := hM5.trans hM56 (by simp)
  have hs45 := hM5.size
  refine ⟨fok76, eMust_cps _ 7 _ _ (fun _ => .inl ⟨_, rfl, hold_ops okT (rs := [.cell 2 27]) rfl ?_⟩) (fun h => absurd h (by simp))⟩
  revert hb5 hM56 hM46
  generalize (((w5.alloc (.cells #[.int .i64 0, .int .i64 0, .int .i64 0] 23)).setCell ⟨w5.heap.size, 0, none⟩ (.int .i64 x1)).setCell ⟨w5.heap.size, 1, none⟩ (.int .i64 x2)).setCell ⟨w5.heap.size, 2, none⟩ (.int .i64 x3) = w6
  intro hb5 hM56 hM46
  have hb4' : n < w5.heap.size ∧ b1 < w5.heap.size := by
    have := (Array.getElem?_eq_some_iff.1 hh4).1
    omega
  generalize w5.heap.size = b4 at *
  have hh6 := hM46.get hh4 (by simp)
  have f2 := cellM f2 hM46
  have f3 := cellM f3 hM46
  have f4 := cellM f4 hM46
  have hM06 := hM04.trans hM46 (by simp)
  clear f1 hM46 hM56 hM5 hM04 hh4
  simp (maxSteps := 1000000) (disch := first | omega | (simp only [sizeAlloc, sizeDrew, sizeSet, sizePut] <;> omega) | fail) only [GS, TT_eq, TTl, Nat.reduceAdd, Nat.reduceMul, Nat.reduceSub, Nat.reduceDiv, Nat.reduceMod, Nat.reducePow, Nat.reduceEqDiff, ↓reduceIte, reduceCtorEq, Int.reduceToNat, Int.reduceAdd, Int.reduceSub, Int.reduceMul]
  refine hold_draw okT (rs := [.cell 2 27]) rfl [0, 0, 2, 6, 14, 0, 32, 96, 254, 1, 1023, 2047, 4095, 8191, 16383] [0, 1, 2, 3, 5, 6, 7, 9, 4, 8, 10, 11, 12, 13, 14] (by kernel_rfl) (by kernel_rfl) ?_
  have hh7 : (w6.drewN 1).heap[n]? = _ := hh6
  have hb7 : (w6.drewN 1).heap[b4]? = _ := hb5
  have f2 : (w6.drewN 1).cell? ⟨b1, o1 + 2, none⟩ = some (.string ⟨t2.toArray⟩) := f2
  have f3 : (w6.drewN 1).cell? ⟨b1, o1 + 3, none⟩ = some (.string ⟨t3.toArray⟩) := f3
  have f4 : (w6.drewN 1).cell? ⟨b1, o1 + 4, none⟩ = some (.string ⟨t4.toArray⟩) := f4
  have hM07 := hM06.drewN 1
  generalize w6.drewN 1 = w7 at *
  have c7 := fun o => cellOf (o := o) hb7
  have hag : ∀ w' : World, Mod [] w7 w' → aggO (consO (w'.cell? ⟨b4, 0, none⟩) (consO (w'.cell? ⟨b4, 1, none⟩) (consO (w'.cell? ⟨b4, 2, none⟩) (some [])))) = some (.agg #[.int .i64 x1, .int .i64 x2, .int .i64 x3]) := by
    intro w' hm
    rw [cellM (show w7.cell? ⟨b4, 0, none⟩ = some (.int .i64 x1) from c7 0) hm, cellM (show w7.cell? ⟨b4, 1, none⟩ = some (.int .i64 x2) from c7 1) hm, cellM (show w7.cell? ⟨b4, 2, none⟩ = some (.int .i64 x3) from c7 2) hm]
    rfl
  simp (maxSteps := 1000000) (disch := first | omega | (simp only [sizeAlloc, sizeDrew, sizeSet, sizePut] <;> omega) | fail) only [GS, TT_eq, TTl, Nat.reduceAdd, Nat.reduceMul, Nat.reduceSub, Nat.reduceDiv, Nat.reduceMod, Nat.reducePow, Nat.reduceEqDiff, ↓reduceIte, reduceCtorEq, Int.reduceToNat, Int.reduceAdd, Int.reduceSub, Int.reduceMul, c7, f2, f4]
  refine ⟨fok114, eNumber_cps t2 (by unfold maxLen; omega) _ _ (fun a w8 ha hM8 => .inl ⟨_, rfl, ?_⟩) (fun ha w8 hM8 => .inr ⟨_, rfl, fun fs' => hold_ex okT (rs := [.cell 2 27]) rfl ?_⟩)⟩
  rotate_left
  · rw [ha] at hX
    simp (maxSteps := 1000000) (disch := first | omega | (simp only [sizeAlloc, sizeDrew, sizeSet, sizePut] <;> omega) | fail) only [GS, TT_eq, TTl, Nat.reduceAdd, Nat.reduceMul, Nat.reduceSub, Nat.reduceDiv, Nat.reduceMod, Nat.reducePow, Nat.reduceEqDiff, ↓reduceIte, reduceCtorEq, Int.reduceToNat, Int.reduceAdd, Int.reduceSub, Int.reduceMul]
    exact h0 7 _ hX.symm (hM07.trans hM8 (by simp))
  rw [ha] at hX
  simp only at hX
  refine ⟨(by repeat' (first | exact hag _ hM8 | exact cellM f4 hM8 | apply And.intro)), hold_dops okT (rs := [.cell 2 27]) rfl ?_⟩
  simp (maxSteps := 1000000) (disch := first | omega | (simp only [sizeAlloc, sizeDrew, sizeSet, sizePut] <;> omega) | fail) only [GS, TT_eq, TTl, Nat.reduceAdd, Nat.reduceMul, Nat.reduceSub, Nat.reduceDiv, Nat.reduceMod, Nat.reducePow, Nat.reduceEqDiff, ↓reduceIte, reduceCtorEq, Int.reduceToNat, Int.reduceAdd, Int.reduceSub, Int.reduceMul]
  refine ⟨fok112, eRow_cps t4 (-1) (by decide) (by decide) (by unfold maxLen; omega) _ _ (fun tags tv w9 htg hto hM9 => .inl ⟨_, rfl, ?_⟩) (fun htg w9 hM9 => .inr ⟨_, rfl, fun fs' => hold_ex okT (rs := [.cell 2 27]) rfl ?_⟩)⟩
  rotate_left
  · rw [htg] at hX
    simp (maxSteps := 1000000) (disch := first | omega | (simp only [sizeAlloc, sizeDrew, sizeSet, sizePut] <;> omega) | fail) only [GS, TT_eq, TTl, Nat.reduceAdd, Nat.reduceMul, Nat.reduceSub, Nat.reduceDiv, Nat.reduceMod, Nat.reducePow, Nat.reduceEqDiff, ↓reduceIte, reduceCtorEq, Int.reduceToNat, Int.reduceAdd, Int.reduceSub, Int.reduceMul]
    exact h0 7 _ hX.symm ((hM07.trans hM8 (by simp)).trans hM9 (by simp))
  rw [htg] at hX
  simp only at hX
  have hM79 := hM8.trans hM9 (by simp)
  refine ⟨(by repeat' (first | exact hag _ hM79 | apply And.intro)), hold_dops okT (rs := [.cell 2 27]) rfl ?_⟩
  have hM09 := hM07.trans hM79 (by simp)
  have hh9 := hM79.get hh7 (by simp)
  have hb9 := hM79.get hb7 (by simp)
  have f3 := cellM f3 hM79
  have htl := (rowR_is htg).2.2.2.2
  have htc := (rowR_is htg).2.2.2.1
  have c9 := fun o => cellOf (o := o) hh9
  have x9 := fun o => frozenOf (o := o) hh9
  have hsv := ownsRow_one hto
  have hs8 := hM8.size
  have hs7 := hM07.size
  have hn7 := (Array.getElem?_eq_some_iff.1 hb7).1
  clear hag f2 f4 c7 hh6 hb5 hM06 hh7 hb7
  simp (maxSteps := 1000000) (disch := first | omega | (simp only [sizeAlloc, sizeDrew, sizeSet, sizePut] <;> omega) | fail) only [GS, TT_eq, TTl, Nat.reduceAdd, Nat.reduceMul, Nat.reduceSub, Nat.reduceDiv, Nat.reduceMod, Nat.reducePow, Nat.reduceEqDiff, ↓reduceIte, reduceCtorEq, Int.reduceToNat, Int.reduceAdd, Int.reduceSub, Int.reduceMul, c9, x9, cellsL_one hsv, hsv]
  have hhA : (((((w9.setCell ⟨n, 0, none⟩ (.int .i64 x1)).setCell ⟨n, 1, none⟩ (.int .i64 x2)).setCell ⟨n, 2, none⟩ (.int .i64 x3)).setCell ⟨n, 3, none⟩ (.int .i64 (a : Nat))).setCell ⟨n, 5, none⟩ tv).heap[n]? = some (.cells #[.int .i64 x1, .int .i64 x2, .int .i64 x3, .int .i64 (a : Nat), .slice none 0 0, tv] 27 (0, 0)) := st5r hh9
  have hMn : Mod [n] w9 (((((w9.setCell ⟨n, 0, none⟩ (.int .i64 x1)).setCell ⟨n, 1, none⟩ (.int .i64 x2)).setCell ⟨n, 2, none⟩ (.int .i64 x3)).setCell ⟨n, 3, none⟩ (.int .i64 (a : Nat))).setCell ⟨n, 5, none⟩ tv) := ((((((Mod.refl [n] w9).set (p := ⟨n, 0, none⟩) (.inl (by simp)) (.int .i64 x1)).set (p := ⟨n, 1, none⟩) (.inl (by simp)) (.int .i64 x2)).set (p := ⟨n, 2, none⟩) (.inl (by simp)) (.int .i64 x3)).set (p := ⟨n, 3, none⟩) (.inl (by simp)) (.int .i64 (a : Nat))).set (p := ⟨n, 5, none⟩) (.inl (by simp)) tv)
  have hMA : Mod [] w (((((w9.setCell ⟨n, 0, none⟩ (.int .i64 x1)).setCell ⟨n, 1, none⟩ (.int .i64 x2)).setCell ⟨n, 2, none⟩ (.int .i64 x3)).setCell ⟨n, 3, none⟩ (.int .i64 (a : Nat))).setCell ⟨n, 5, none⟩ tv) := (((((hM09.set (p := ⟨n, 0, none⟩) (.inr hge) (.int .i64 x1)).set (p := ⟨n, 1, none⟩) (.inr hge) (.int .i64 x2)).set (p := ⟨n, 2, none⟩) (.inr hge) (.int .i64 x3)).set (p := ⟨n, 3, none⟩) (.inr hge) (.int .i64 (a : Nat))).set (p := ⟨n, 5, none⟩) (.inr hge) tv)
  have hbA := hMn.get hb9 (by simp; omega)
  have hoA := ownsRow_mod hto hMn (by simp; omega)
  have f3 := cellMS f3 hMn (by simp; omega)
  have hsA := hMn.size
  revert hhA hMn hMA hbA hoA f3 hsA
  generalize (((((w9.setCell ⟨n, 0, none⟩ (.int .i64 x1)).setCell ⟨n, 1, none⟩ (.int .i64 x2)).setCell ⟨n, 2, none⟩ (.int .i64 x3)).setCell ⟨n, 3, none⟩ (.int .i64 (a : Nat))).setCell ⟨n, 5, none⟩ tv) = wA
  intro hhA hMn hMA hbA hoA f3 hsA
  have hs9 := hM9.size
  clear c9 x9 hsv hto hh9 hb9 hMn hM79 hM8 hM9 hM07 hM09
  refine hold_makeMapW rfl fun wB hmap hMB => hold_ops okT (rs := [.cell 2 27]) rfl ?_
  have hhB := hMB.get hhA (by simp)
  have hbB := hMB.get hbA (by simp)
  have hoB := ownsRow_mod hoA hMB (by simp)
  have f3 := cellM f3 hMB
  have hM0B := hMA.trans hMB (by simp)
  have hsB := hMB.size
  have hsA0 := hMA.size
  have hnA := (Array.getElem?_eq_some_iff.1 hhA).1
  have hbAl := (Array.getElem?_eq_some_iff.1 hbA).1
  have hb1A : b1 < wA.heap.size := by omega
  have hgmp : ∀ g, tv.ownBlock = some g → g < wA.heap.size := fun g hg => (hoA.lt g hg).2
  generalize hmp : wA.heap.size = mp at *
  clear hhA hbA hoA hMB hMA
  unfold decN at hX
  simp (maxSteps := 1000000) (disch := first | omega | (simp only [sizeAlloc, sizeDrew, sizeSet, sizePut] <;> omega) | fail) only [GS, TT_eq, TTl, Nat.reduceAdd, Nat.reduceMul, Nat.reduceSub, Nat.reduceDiv, Nat.reduceMod, Nat.reducePow, Nat.reduceEqDiff, ↓reduceIte, reduceCtorEq, Int.reduceToNat, Int.reduceAdd, Int.reduceSub, Int.reduceMul, f3]
  refine ⟨fok112, eRow_cps t3 (-1) (by decide) (by decide) (by unfold maxLen; omega) _ _ (fun ps pv wC hps hpo hMC => .inl ⟨_, rfl, hold_ops okT (rs := [.cell 2 27]) rfl ?_⟩) (fun hps wC hMC => .inr ⟨_, rfl, hold_ex okT (rs := [.cell 2 27]) rfl ?_⟩)⟩
  rotate_left
  · rw [hps] at hX
    simp (maxSteps := 1000000) (disch := first | omega | (simp only [sizeAlloc, sizeDrew, sizeSet, sizePut] <;> omega) | fail) only [GS, TT_eq, TTl, Nat.reduceAdd, Nat.reduceMul, Nat.reduceSub, Nat.reduceDiv, Nat.reduceMod, Nat.reducePow, Nat.reduceEqDiff, ↓reduceIte, reduceCtorEq, Int.reduceToNat, Int.reduceAdd, Int.reduceSub, Int.reduceMul]
    exact h0 7 _ hX.symm (hM0B.trans hMC (by simp))
  rw [hps] at hX
  simp only at hX
  obtain ⟨-, -, -, hpsc, hpsl⟩ := rowR_is hps
  have hhC := hMC.get hhB (by simp)
  have hbC := hMC.get hbB (by simp)
  have hoC := ownsRow_mod hoB hMC (by simp)
  have f3 := cellM f3 hMC
  have hM0C := hM0B.trans hMC (by simp)
  have hmapC := hmap.mod hMC (by simp)
  have hmpC := hmapC.lt
  have hpR := Rd.own hpo
  have hpblk : ∀ b, blkOf pv = some b → b ∉ [mp] := fun b hb => by
    obtain ⟨pa, pc, rfl⟩ := hpR.slice
    cases pa with
    | none => simp [blkOf] at hb
    | some ad =>
      simp only [blkOf, Option.some.injEq] at hb
      have := hpo.lt b (by simp [Value.ownBlock, hb])
      have := hmap.lt
      simp
      omega
  clear hhB hbB hoB hM0B hmap hMC hpo
  obtain ⟨pa, pc, rfl⟩ := hpR.slice
  simp (maxSteps := 1000000) (disch := first | omega | (simp only [sizeAlloc, sizeDrew, sizeSet, sizePut] <;> omega) | fail) only [GS, TT_eq, TTl, Nat.reduceAdd, Nat.reduceMul, Nat.reduceSub, Nat.reduceDiv, Nat.reduceMod, Nat.reducePow, Nat.reduceEqDiff, ↓reduceIte, reduceCtorEq, Int.reduceToNat, Int.reduceAdd, Int.reduceSub, Int.reduceMul]
  refine hold_loop okT (rs := [.cell 2 27]) rfl [53] [8, 54, 55, 56, 57, 58, 59, 60, 61, 62, 63, 64, 65] (fun vs w' => ∃ (j : Nat) (E : List (Value × Value)) (ns : List Nat), vs = [.int .i64 j] ∧ j ≤ ps.length ∧ ns.length = j ∧ MapW w' mp E ∧ Cnt E ns ∧ numsO ps = (numsO (ps.drop j)).map (ns ++ ·) ∧ Mod [mp] wC w') (fun vs _ => match vs with | [.int _ i] => ps.length - i.toNat | _ => 0) (by kernel_rfl) ⟨0, [], [], rfl, by omega, rfl, hmapC, Cnt.nil, by rw [List.drop_zero]; cases numsO ps <;> rfl, Mod.refl _ _⟩ ?_
  rintro vs wD J ⟨j, E, ns, rfl, hj, hnsl, hMW, hCnt, hN, hMD⟩
  have hM0D : Mod [] w wD := hM0C.trans hMD (fun y hy => .inr (by simp at hy; omega))
  by_cases hlt : j < ps.length
  · obtain ⟨bp, op, cp, ep, _, gp⟩ := (hpR.mod hMD hpblk).at (by omega) (by omega)
    have fs := gp j _ (getS hlt)
    rw [Value.slice.injEq] at ep
    obtain ⟨rfl, -, -⟩ := ep
    have hsc := hpsc _ (List.getElem_mem hlt)
    rw [List.drop_eq_getElem_cons hlt, numsO] at hN
    generalize ps[j] = s at fs hsc hN
    have zs := (check0 hsc).2.2.1
    simp (maxSteps := 1000000) (disch := first | omega | (simp only [sizeAlloc, sizeDrew, sizeSet, sizePut] <;> omega) | fail) only [GS, TT_eq, TTl, Nat.reduceAdd, Nat.reduceMul, Nat.reduceSub, Nat.reduceDiv, Nat.reduceMod, Nat.reducePow, Nat.reduceEqDiff, ↓reduceIte, reduceCtorEq, Int.reduceToNat, Int.reduceAdd, Int.reduceSub, Int.reduceMul, fs]
    refine ⟨fok112, eRow_cps s 2 (by decide) (by decide) (by unfold maxLen; omega) _ _ (fun q qv wE hq hqo hME => .inl ⟨_, rfl, hold_ops okT (rs := [.cell 2 27]) rfl ?_⟩) (fun hq wE hME => .inr ⟨_, rfl, hold_ex okT (rs := [.cell 2 27]) rfl ?_⟩)⟩
    rotate_left
    · rw [hq] at hN
      simp only [Option.map_none] at hN
      rw [hN] at hX
      simp (maxSteps := 1000000) (disch := first | omega | (simp only [sizeAlloc, sizeDrew, sizeSet, sizePut] <;> omega) | fail) only [GS, TT_eq, TTl, Nat.reduceAdd, Nat.reduceMul, Nat.reduceSub, Nat.reduceDiv, Nat.reduceMod, Nat.reducePow, Nat.reduceEqDiff, ↓reduceIte, reduceCtorEq, Int.reduceToNat, Int.reduceAdd, Int.reduceSub, Int.reduceMul]
      exact h0 7 _ hX.symm (hM0D.trans hME (by simp))
    rw [hq] at hN
    simp only at hN
    obtain ⟨-, -, hq2, hqc, -⟩ := rowR_is hq
    obtain ⟨q0, q1, rfl⟩ := len2 (show q.length = 2 by omega)
    simp only [List.getD_cons_zero] at hN
    have zq := (check0 (hqc q0 (by simp))).2.2.1
    obtain ⟨bq, oq, cq, eq, _, gq⟩ := (Rd.own hqo).at (by simp) (by simp)
    have fq : wE.cell? ⟨bq, oq, none⟩ = some (.string ⟨q0.toArray⟩) := gq 0 _ rfl
    subst eq
    simp (maxSteps := 1000000) (disch := first | omega | (simp only [sizeAlloc, sizeDrew, sizeSet, sizePut] <;> omega) | fail) only [GS, TT_eq, TTl, Nat.reduceAdd, Nat.reduceMul, Nat.reduceSub, Nat.reduceDiv, Nat.reduceMod, Nat.reducePow, Nat.reduceEqDiff, ↓reduceIte, reduceCtorEq, Int.reduceToNat, Int.reduceAdd, Int.reduceSub, Int.reduceMul, fq]
    refine ⟨fok114, eNumber_cps q0 (by unfold maxLen; omega) _ _ (fun v wF hv hMF => .inl ⟨_, rfl, hold_ops okT (rs := [.cell 2 27]) rfl ?_⟩) (fun hv wF hMF => .inr ⟨_, rfl, hold_ex okT (rs := [.cell 2 27]) rfl ?_⟩)⟩
    rotate_left
    · rw [hv] at hN
      simp only [Option.map_none] at hN
      rw [hN] at hX
      simp (maxSteps := 1000000) (disch := first | omega | (simp only [sizeAlloc, sizeDrew, sizeSet, sizePut] <;> omega) | fail) only [GS, TT_eq, TTl, Nat.reduceAdd, Nat.reduceMul, Nat.reduceSub, Nat.reduceDiv, Nat.reduceMod, Nat.reducePow, Nat.reduceEqDiff, ↓reduceIte, reduceCtorEq, Int.reduceToNat, Int.reduceAdd, Int.reduceSub, Int.reduceMul]
      exact h0 7 _ hX.symm ((hM0D.trans hME (by simp)).trans hMF (by simp))
    rw [hv] at hN
    simp only at hN
    have hMDF := hME.trans hMF (by simp)
    have hMWF := hMW.mod hMDF (by simp)
    have hlk := look_k v hMWF.at hCnt
    have hcl : ns.count v ≤ ns.length := List.count_le_length
    simp (maxSteps := 1000000) (disch := first | omega | (simp only [sizeAlloc, sizeDrew, sizeSet, sizePut] <;> omega) | fail) only [GS, TT_eq, TTl, Nat.reduceAdd, Nat.reduceMul, Nat.reduceSub, Nat.reduceDiv, Nat.reduceMod, Nat.reducePow, Nat.reduceEqDiff, ↓reduceIte, reduceCtorEq, Int.reduceToNat, Int.reduceAdd, Int.reduceSub, Int.reduceMul, hlk]
    by_cases hc0 : ns.count v = 0
    · refine hold_insertW (i := kV v) (v := .int .i64 ((ns.count v : Nat) + 1)) okT (.inr rfl) rfl rfl rfl rfl hMWF rfl hCnt.keys (by have := hCnt.find v; rw [if_pos hc0] at this; exact this) fun wG hMG hMm => hold_ops okT (rs := [.cell 2 27]) rfl ?_
      have hCn := hCnt.push hc0
      simp (maxSteps := 1000000) (disch := first | omega | (simp only [sizeAlloc, sizeDrew, sizeSet, sizePut] <;> omega) | fail) only [GS, TT_eq, TTl, Nat.reduceAdd, Nat.reduceMul, Nat.reduceSub, Nat.reduceDiv, Nat.reduceMod, Nat.reducePow, Nat.reduceEqDiff, ↓reduceIte, reduceCtorEq, Int.reduceToNat, Int.reduceAdd, Int.reduceSub, Int.reduceMul]
      refine ⟨⟨j + 1, _, ns ++ [v], rfl, by omega, by rw [List.length_append]; simp; omega, hMG, ?_, ?_, hMD.trans ((hMDF.mono (by simp)).trans hMm (fun y hy => .inl hy)) (fun y hy => .inl hy)⟩, by omega⟩
      · have e1 : ((ns.count v : Nat) : Int) + 1 = ((1 : Nat) : Int) := by omega
        first | exact hCn | (rw [e1]; exact hCn)
      · rw [hN]
        cases numsO (ps.drop (j + 1)) with
        | none => rfl
        | some q => simp
    · refine hold_updateW (ik := .i64) (n := (v : Nat)) (v := .int .i64 ((ns.count v : Nat) + 1)) okT rfl rfl rfl rfl rfl hMWF rfl hCnt.keys (by have := hCnt.find v; rw [if_neg hc0] at this; intro e; have e2 : mfind (kV v) E = none := e; rw [e2] at this; simp at this) fun i u wG hi hMG hMm => hold_ops okT (rs := [.cell 2 27]) rfl ?_
      have hCn := hCnt.upd (v := v) hi
      simp (maxSteps := 1000000) (disch := first | omega | (simp only [sizeAlloc, sizeDrew, sizeSet, sizePut] <;> omega) | fail) only [GS, TT_eq, TTl, Nat.reduceAdd, Nat.reduceMul, Nat.reduceSub, Nat.reduceDiv, Nat.reduceMod, Nat.reducePow, Nat.reduceEqDiff, ↓reduceIte, reduceCtorEq, Int.reduceToNat, Int.reduceAdd, Int.reduceSub, Int.reduceMul]
      refine ⟨⟨j + 1, _, ns ++ [v], rfl, by omega, by rw [List.length_append]; simp; omega, hMG, ?_, ?_, hMD.trans ((hMDF.mono (by simp)).trans hMm (fun y hy => .inl hy)) (fun y hy => .inl hy)⟩, by omega⟩
      · exact hCn
      · rw [hN]
        cases numsO (ps.drop (j + 1)) with
        | none => rfl
        | some q => simp
  have ej : j = ps.length := by omega
  subst ej
  rw [List.drop_length, numsO] at hN
  simp only [Option.map_some, List.append_nil] at hN
  rw [hN] at hX
  simp only at hX
  have hhD := hMD.get hhC (by simp; omega)
  have hbD := hMD.get hbC (by simp; omega)
  have f3 := cellMS f3 hMD (by simp; omega)
  have hoD := ownsRow_mod' hoC hMD (fun g hg => by have := hgmp g hg; simp; omega)
  clear hhC hbC hoC hpR hpblk hN hM0C
  simp (maxSteps := 1000000) (disch := first | omega | (simp only [sizeAlloc, sizeDrew, sizeSet, sizePut] <;> omega) | fail) only [GS, TT_eq, TTl, Nat.reduceAdd, Nat.reduceMul, Nat.reduceSub, Nat.reduceDiv, Nat.reduceMod, Nat.reducePow, Nat.reduceEqDiff, ↓reduceIte, reduceCtorEq, Int.reduceToNat, Int.reduceAdd, Int.reduceSub, Int.reduceMul]
  refine hold_rangeMap okT rfl rfl rfl hMW fun wH hIt hMH hsH => hold_ops okT (rs := [.cell 2 27]) rfl ?_
  have hM0H := hM0D.trans hMH (by simp)
  have hhH := hMH.get hhD (by simp)
  have hbH := hMH.get hbD (by simp)
  have f3 := cellM f3 hMH
  have hoH := ownsRow_mod hoD hMH (by simp)
  have hmpD := hMW.lt
  have hnD := (Array.getElem?_eq_some_iff.1 hhD).1
  have hbDl := (Array.getElem?_eq_some_iff.1 hbD).1
  have hs0D := hM0D.size
  generalize hit : wD.heap.size = it at *
  clear hhD hbD hoD hM0D hMD hMH
  simp (maxSteps := 1000000) (disch := first | omega | (simp only [sizeAlloc, sizeDrew, sizeSet, sizePut] <;> omega) | fail) only [GS, TT_eq, TTl, Nat.reduceAdd, Nat.reduceMul, Nat.reduceSub, Nat.reduceDiv, Nat.reduceMod, Nat.reducePow, Nat.reduceEqDiff, ↓reduceIte, reduceCtorEq, Int.reduceToNat, Int.reduceAdd, Int.reduceSub, Int.reduceMul]
  refine hold_loop okT (rs := [.cell 2 27]) rfl [] [10, 68, 69, 70, 71, 72, 73, 74] (fun vs w' => ∃ left, vs = [] ∧ ItAt w' it mp left ∧ (∀ e ∈ left, e ∈ E) ∧ (∀ e ∈ E, e ∈ left ∨ e.2 = kV 1) ∧ Mod [it] wH w') (fun vs w' => itLeft w' it) (by kernel_rfl) ⟨_, rfl, hIt, fun e he => he, fun e he => .inl he, Mod.refl _ _⟩ ?_
  rintro vs wI J2 ⟨left, rfl, hIt7, hin, hfit, hMI⟩
  have hM0I : Mod [] w wI := hM0H.trans hMI (fun y hy => .inr (by simp at hy; omega))
  simp (maxSteps := 1000000) (disch := first | omega | (simp only [sizeAlloc, sizeDrew, sizeSet, sizePut] <;> omega) | fail) only [GS, TT_eq, TTl, Nat.reduceAdd, Nat.reduceMul, Nat.reduceSub, Nat.reduceDiv, Nat.reduceMod, Nat.reducePow, Nat.reduceEqDiff, ↓reduceIte, reduceCtorEq, Int.reduceToNat, Int.reduceAdd, Int.reduceSub, Int.reduceMul]
  refine hold_nextMap rfl rfl hIt7 (fun hz => hold_ops okT (rs := [.cell 2 27]) rfl ?_) (fun key val la lb wK hleft hIt8 hEnt hMK => hold_ops okT (rs := [.cell 2 27]) rfl ?_)
  rotate_left
  · obtain ⟨v, ev, hv0⟩ := hCnt.ent (key, val) (hin _ (by rw [hleft]; simp))
    rw [Prod.mk.injEq] at ev
    obtain ⟨rfl, rfl⟩ := ev
    simp (maxSteps := 1000000) (disch := first | omega | (simp only [sizeAlloc, sizeDrew, sizeSet, sizePut] <;> omega) | fail) only [GS, TT_eq, TTl, Nat.reduceAdd, Nat.reduceMul, Nat.reduceSub, Nat.reduceDiv, Nat.reduceMod, Nat.reducePow, Nat.reduceEqDiff, ↓reduceIte, reduceCtorEq, Int.reduceToNat, Int.reduceAdd, Int.reduceSub, Int.reduceMul]
    refine hold_entryMap rfl rfl hEnt (hold_ops okT (rs := [.cell 2 27]) rfl ?_)
    have hM0K : Mod [] w wK := hM0I.trans hMK (fun y hy => .inr (by simp at hy; omega))
    unfold kV
    by_cases hc1 : ((ns.count v : Nat) : Int) = 1
    · simp (maxSteps := 1000000) (disch := first | omega | (simp only [sizeAlloc, sizeDrew, sizeSet, sizePut] <;> omega) | fail) only [GS, TT_eq, TTl, Nat.reduceAdd, Nat.reduceMul, Nat.reduceSub, Nat.reduceDiv, Nat.reduceMod, Nat.reducePow, Nat.reduceEqDiff, ↓reduceIte, reduceCtorEq, Int.reduceToNat, Int.reduceAdd, Int.reduceSub, Int.reduceMul, hc1]
      refine ⟨fok76, eMust_cps _ 260 _ _ (fun _ => .inl ⟨_, rfl, hold_ops okT (rs := [.cell 2 27]) rfl ?_⟩) (fun h => absurd h (by simp))⟩
      simp (maxSteps := 1000000) (disch := first | omega | (simp only [sizeAlloc, sizeDrew, sizeSet, sizePut] <;> omega) | fail) only [GS, TT_eq, TTl, Nat.reduceAdd, Nat.reduceMul, Nat.reduceSub, Nat.reduceDiv, Nat.reduceMod, Nat.reducePow, Nat.reduceEqDiff, ↓reduceIte, reduceCtorEq, Int.reduceToNat, Int.reduceAdd, Int.reduceSub, Int.reduceMul]
      refine ⟨⟨la ++ lb, hIt8, fun e he => hin e ?_, fun e he => ?_, hMI.trans hMK (fun y hy => .inl hy)⟩, ?_⟩
      · rw [hleft]
        rw [List.mem_append] at he
        rw [List.mem_append, List.mem_cons]
        rcases he with he | he
        · exact .inl he
        · exact .inr (.inr he)
      · rcases hfit e he with he | he
        · rw [hleft, List.mem_append, List.mem_cons] at he
          rcases he with he | he | he
          · exact .inl (List.mem_append.2 (.inl he))
          · subst he
            refine .inr ?_
            have : ns.count v = 1 := by omega
            simp only
            rw [this]
            rfl
          · exact .inl (List.mem_append.2 (.inr he))
        · exact .inr he
      · rw [hIt8.count, hIt7.count, hleft, List.length_append, List.length_append, List.length_cons]
        omega
    · rw [if_neg (fun h => hc1 (by have := nodup_count h v hv0; omega))] at hX
      simp (maxSteps := 1000000) (disch := first | omega | (simp only [sizeAlloc, sizeDrew, sizeSet, sizePut] <;> omega) | fail) only [GS, TT_eq, TTl, Nat.reduceAdd, Nat.reduceMul, Nat.reduceSub, Nat.reduceDiv, Nat.reduceMod, Nat.reducePow, Nat.reduceEqDiff, ↓reduceIte, reduceCtorEq, Int.reduceToNat, Int.reduceAdd, Int.reduceSub, Int.reduceMul, hc1]
      refine ⟨fok76, eMust_cps _ 260 _ _ (fun h => absurd h (by simp)) (fun _ => .inr ⟨_, rfl, hold_ex okT (rs := [.cell 2 27]) rfl ?_⟩)⟩
      simp (maxSteps := 1000000) (disch := first | omega | (simp only [sizeAlloc, sizeDrew, sizeSet, sizePut] <;> omega) | fail) only [GS, TT_eq, TTl, Nat.reduceAdd, Nat.reduceMul, Nat.reduceSub, Nat.reduceDiv, Nat.reduceMod, Nat.reducePow, Nat.reduceEqDiff, ↓reduceIte, reduceCtorEq, Int.reduceToNat, Int.reduceAdd, Int.reduceSub, Int.reduceMul]
      exact h0 260 _ hX.symm hM0K
  subst hz
  have hnd : ns.Nodup := count_nodup fun v hv => by
    rcases hfit _ (hCnt.all v hv) with h | h
    · simp at h
    · exact kV_inj h
  rw [if_pos hnd] at hX
  unfold decM at hX
  have hhI := hMI.get hhH (by simp; omega)
  have hbI := hMI.get hbH (by simp; omega)
  have f3 := cellMS f3 hMI (by simp; omega)
  have hoI := ownsRow_mod' hoH hMI (fun g hg => by have := hgmp g hg; simp; omega)
  clear hhH hbH hoH hMI hM0H hIt7 hfit hin hIt hCnt
  simp (maxSteps := 1000000) (disch := first | omega | (simp only [sizeAlloc, sizeDrew, sizeSet, sizePut] <;> omega) | fail) only [GS, TT_eq, TTl, Nat.reduceAdd, Nat.reduceMul, Nat.reduceSub, Nat.reduceDiv, Nat.reduceMod, Nat.reducePow, Nat.reduceEqDiff, ↓reduceIte, reduceCtorEq, Int.reduceToNat, Int.reduceAdd, Int.reduceSub, Int.reduceMul]
  refine hold_draw okT (rs := [.cell 2 27]) rfl [0, 0, 2, 6, 15, 31, 63, 63, 127, 383, 1023] [0, 1, 2, 3, 4, 5, 6, 7, 8, 9, 10] (by kernel_rfl) (by kernel_rfl) ?_
  have hhL : (wI.drewN 1).heap[n]? = _ := hhI
  have hbL : (wI.drewN 1).heap[b4]? = _ := hbI
  have f3 : (wI.drewN 1).cell? ⟨b1, o1 + 3, none⟩ = some (.string ⟨t3.toArray⟩) := f3
  have hM0L := hM0I.drewN 1
  have hoL := ownsRow_mod hoI (Mod.drewN 1 (Mod.refl [] wI)) (by simp)
  generalize wI.drewN 1 = wL at *
  have cL := fun o => cellOf (o := o) hbL
  have hag : ∀ w' : World, Mod [] wL w' → aggO (consO (w'.cell? ⟨b4, 0, none⟩) (consO (w'.cell? ⟨b4, 1, none⟩) (consO (w'.cell? ⟨b4, 2, none⟩) (some [])))) = some (.agg #[.int .i64 x1, .int .i64 x2, .int .i64 x3]) := by
    intro w' hm
    rw [cellM (show wL.cell? ⟨b4, 0, none⟩ = some (.int .i64 x1) from cL 0) hm, cellM (show wL.cell? ⟨b4, 1, none⟩ = some (.int .i64 x2) from cL 1) hm, cellM (show wL.cell? ⟨b4, 2, none⟩ = some (.int .i64 x3) from cL 2) hm]
    rfl
  simp (maxSteps := 1000000) (disch := first | omega | (simp only [sizeAlloc, sizeDrew, sizeSet, sizePut] <;> omega) | fail) only [GS, TT_eq, TTl, Nat.reduceAdd, Nat.reduceMul, Nat.reduceSub, Nat.reduceDiv, Nat.reduceMod, Nat.reducePow, Nat.reduceEqDiff, ↓reduceIte, reduceCtorEq, Int.reduceToNat, Int.reduceAdd, Int.reduceSub, Int.reduceMul, cL, f3]
  have hsL := hM0L.size
  have hnL := (Array.getElem?_eq_some_iff.1 hhL).1
  refine ⟨fok115, hMM _ _ (fun mbs sm wM hmb hown hMM2 => .inl ⟨_, rfl, ?_⟩) (fun hmb wM hMM2 => .inl ⟨_, rfl, ?_⟩)⟩
  rotate_left
  · first | refine ⟨(by repeat' (first | exact hag _ hMM2 | exact cellM f3 hMM2 | apply And.intro)), hold_dops okT (rs := [.cell 2 27]) rfl ?_⟩ | refine hold_dops okT (rs := [.cell 2 27]) rfl ?_
    rw [hmb] at hX
    have hhM := hMM2.get hhL (by simp)
    have cM := fun o => cellOf (o := o) hhM
    have xM := fun o => frozenOf (o := o) hhM
    simp (maxSteps := 1000000) (disch := first | omega | (simp only [sizeAlloc, sizeDrew, sizeSet, sizePut] <;> omega) | fail) only [GS, TT_eq, TTl, Nat.reduceAdd, Nat.reduceMul, Nat.reduceSub, Nat.reduceDiv, Nat.reduceMod, Nat.reducePow, Nat.reduceEqDiff, ↓reduceIte, reduceCtorEq, Int.reduceToNat, Int.reduceAdd, Int.reduceSub, Int.reduceMul, cM, xM]
    refine ⟨fok76, eMust_cps _ 7 _ _ (fun h => absurd h (by simp)) (fun _ => .inr ⟨_, rfl, hold_ex okT (rs := [.cell 2 27]) rfl ?_⟩)⟩
    simp (maxSteps := 1000000) (disch := first | omega | (simp only [sizeAlloc, sizeDrew, sizeSet, sizePut] <;> omega) | fail) only [GS, TT_eq, TTl, Nat.reduceAdd, Nat.reduceMul, Nat.reduceSub, Nat.reduceDiv, Nat.reduceMod, Nat.reducePow, Nat.reduceEqDiff, ↓reduceIte, reduceCtorEq, Int.reduceToNat, Int.reduceAdd, Int.reduceSub, Int.reduceMul]
    exact h0 7 _ hX.symm ((hM0L.trans hMM2 (by simp)).set (p := ⟨n, 4, none⟩) (.inr hge) _)
  first | refine ⟨(by repeat' (first | exact hag _ hMM2 | exact cellM f3 hMM2 | apply And.intro)), hold_dops okT (rs := [.cell 2 27]) rfl ?_⟩ | refine hold_dops okT (rs := [.cell 2 27]) rfl ?_
  rw [hmb] at hX
  simp only at hX
  have hhM := hMM2.get hhL (by simp)
  have cM := fun o => cellOf (o := o) hhM
  have xM := fun o => frozenOf (o := o) hhM
  have osm := ownsRow_one hown
  have hM0M := hM0L.trans hMM2 (by simp)
  have hoM := ownsRow_mod hoL hMM2 (by simp)
  have otv := ownsRow_one hoM
  simp (maxSteps := 1000000) (disch := first | omega | (simp only [sizeAlloc, sizeDrew, sizeSet, sizePut] <;> omega) | fail) only [GS, TT_eq, TTl, Nat.reduceAdd, Nat.reduceMul, Nat.reduceSub, Nat.reduceDiv, Nat.reduceMod, Nat.reducePow, Nat.reduceEqDiff, ↓reduceIte, reduceCtorEq, Int.reduceToNat, Int.reduceAdd, Int.reduceSub, Int.reduceMul, cM, xM, cellsL_one osm, osm]
  have hhP : (wM.setCell ⟨n, 4, none⟩ sm).heap[n]? = some (.cells #[.int .i64 x1, .int .i64 x2, .int .i64 x3, .int .i64 (a : Nat), sm, tv] 27 (0, 0)) := by rw [heapSet hhM]; rfl
  have hMp : Mod [n] wM (wM.setCell ⟨n, 4, none⟩ sm) := (Mod.refl [n] wM).set (p := ⟨n, 4, none⟩) (.inl (by simp)) sm
  have hM0P : Mod [] w (wM.setCell ⟨n, 4, none⟩ sm) := hM0M.set (p := ⟨n, 4, none⟩) (.inr hge) sm
  have hoP := ownsRow_mod hoM hMp (by simp; omega)
  have howP := ownsRow_mod hown hMp (by simp; omega)
  revert hhP hMp hM0P hoP howP
  generalize wM.setCell ⟨n, 4, none⟩ sm = wP
  intro hhP hMp hM0P hoP howP
  have cP := fun o => cellOf (o := o) hhP
  obtain ⟨eT, -⟩ := of_numT ha
  obtain ⟨-, haL⟩ := of_numT ha
  have hmB := (unmb_back hmb).2
  have hmB' := hmB
  unfold mbB at hmB'
  rw [Bool.and_eq_true] at hmB'
  have hml := of_decide_eq_true hmB'.2
  have hin2 : ∀ w', Mod [] wP w' → RcpIn w' ⟨(x1, x2, x3), (a : Int), mbs, tags⟩ sm tv := fun w' hM => RcpIn.mod ⟨⟨by simp only; omega, by simp only; omega⟩, by simp only; omega, fun x hx => by have := (check0 (mbs_el hmB'.1 x hx).2.2).2.2.1; unfold maxLen; omega, Rd.own howP, by simp only; omega, fun x hx => by have := (check0 (htc x hx)).2.2.1; unfold maxLen; omega, Rd.own hoP⟩ hM
  have hCk := fun w' hM => eCheck_cps ⟨(x1, x2, x3), (a : Int), mbs, tags⟩ sm tv w' (hin2 w' hM)
  unfold rcV rcC at hCk
  simp only at hCk
  refine ⟨fok35, hCk _ (Mod.refl _ _) _ fun wQ hMQ => .inl ⟨_, rfl, hold_ops okT (rs := [.cell 2 27]) rfl ?_⟩⟩
  have hhQ := hMQ.get hhP (by simp)
  have hM0Q := hM0P.trans hMQ (by simp)
  have hoQ := ownsRow_mod hoP hMQ (by simp)
  have howQ := ownsRow_mod howP hMQ (by simp)
  have hsP := hM0P.size
  have hsQ := hMQ.size
  have hnQ := (Array.getElem?_eq_some_iff.1 hhQ).1
  have cQ := fun o => cellOf (o := o) hhQ
  have xQ := fun o => frozenOf (o := o) hhQ
  cases hmy : mayR ⟨(x1, x2, x3), (a : Int), mbs, tags⟩
  · rw [hmy] at hX
    simp only [Bool.false_eq_true, if_false] at hX ⊢
    simp (maxSteps := 1000000) (disch := first | omega | (simp only [sizeAlloc, sizeDrew, sizeSet, sizePut] <;> omega) | fail) only [GS, TT_eq, TTl, Nat.reduceAdd, Nat.reduceMul, Nat.reduceSub, Nat.reduceDiv, Nat.reduceMod, Nat.reducePow, Nat.reduceEqDiff, ↓reduceIte, reduceCtorEq, Int.reduceToNat, Int.reduceAdd, Int.reduceSub, Int.reduceMul]
    refine ⟨fok76, eMust_cps _ 7 _ _ (fun h => absurd h (by simp)) (fun _ => .inr ⟨_, rfl, hold_ex okT (rs := [.cell 2 27]) rfl ?_⟩)⟩
    simp (maxSteps := 1000000) (disch := first | omega | (simp only [sizeAlloc, sizeDrew, sizeSet, sizePut] <;> omega) | fail) only [GS, TT_eq, TTl, Nat.reduceAdd, Nat.reduceMul, Nat.reduceSub, Nat.reduceDiv, Nat.reduceMod, Nat.reducePow, Nat.reduceEqDiff, ↓reduceIte, reduceCtorEq, Int.reduceToNat, Int.reduceAdd, Int.reduceSub, Int.reduceMul]
    exact h0 7 _ hX.symm hM0Q
  rw [hmy] at hX
  simp only [if_true] at hX ⊢
  simp (maxSteps := 1000000) (disch := first | omega | (simp only [sizeAlloc, sizeDrew, sizeSet, sizePut] <;> omega) | fail) only [GS, TT_eq, TTl, Nat.reduceAdd, Nat.reduceMul, Nat.reduceSub, Nat.reduceDiv, Nat.reduceMod, Nat.reducePow, Nat.reduceEqDiff, ↓reduceIte, reduceCtorEq, Int.reduceToNat, Int.reduceAdd, Int.reduceSub, Int.reduceMul]
  refine ⟨fok76, eMust_cps _ 7 _ _ (fun _ => .inl ⟨_, rfl, hold_ops okT (rs := [.cell 2 27]) rfl ?_⟩) (fun h => absurd h (by simp))⟩
  have osQ := ownsRow_one howQ
  have otQ := ownsRow_one hoQ
  simp (maxSteps := 1000000) (disch := first | omega | (simp only [sizeAlloc, sizeDrew, sizeSet, sizePut] <;> omega) | fail) only [GS, TT_eq, TTl, Nat.reduceAdd, Nat.reduceMul, Nat.reduceSub, Nat.reduceDiv, Nat.reduceMod, Nat.reducePow, Nat.reduceEqDiff, ↓reduceIte, reduceCtorEq, Int.reduceToNat, Int.reduceAdd, Int.reduceSub, Int.reduceMul, cQ, xQ, cellsL_one osQ, osQ, cellsL_one otQ, otQ]
  have hhE : ((((((wQ.setCell ⟨n, 0, none⟩ (.int .i64 x1)).setCell ⟨n, 1, none⟩ (.int .i64 x2)).setCell ⟨n, 2, none⟩ (.int .i64 x3)).setCell ⟨n, 3, none⟩ (.int .i64 (a : Nat))).setCell ⟨n, 4, none⟩ sm).setCell ⟨n, 5, none⟩ tv).heap[n]? = some (.cells #[.int .i64 x1, .int .i64 x2, .int .i64 x3, .int .i64 (a : Nat), sm, tv] 27 (0, 0)) := st6 hhQ
  have hME : Mod [] w ((((((wQ.setCell ⟨n, 0, none⟩ (.int .i64 x1)).setCell ⟨n, 1, none⟩ (.int .i64 x2)).setCell ⟨n, 2, none⟩ (.int .i64 x3)).setCell ⟨n, 3, none⟩ (.int .i64 (a : Nat))).setCell ⟨n, 4, none⟩ sm).setCell ⟨n, 5, none⟩ tv) := ((((((hM0Q.set (p := ⟨n, 0, none⟩) (.inr hge) (.int .i64 x1)).set (p := ⟨n, 1, none⟩) (.inr hge) (.int .i64 x2)).set (p := ⟨n, 2, none⟩) (.inr hge) (.int .i64 x3)).set (p := ⟨n, 3, none⟩) (.inr hge) (.int .i64 (a : Nat))).set (p := ⟨n, 4, none⟩) (.inr hge) sm).set (p := ⟨n, 5, none⟩) (.inr hge) tv)
  have hMe : Mod [n] wQ ((((((wQ.setCell ⟨n, 0, none⟩ (.int .i64 x1)).setCell ⟨n, 1, none⟩ (.int .i64 x2)).setCell ⟨n, 2, none⟩ (.int .i64 x3)).setCell ⟨n, 3, none⟩ (.int .i64 (a : Nat))).setCell ⟨n, 4, none⟩ sm).setCell ⟨n, 5, none⟩ tv) := (((((((Mod.refl [n] wQ).set (p := ⟨n, 0, none⟩) (.inl (by simp)) (.int .i64 x1)).set (p := ⟨n, 1, none⟩) (.inl (by simp)) (.int .i64 x2)).set (p := ⟨n, 2, none⟩) (.inl (by simp)) (.int .i64 x3)).set (p := ⟨n, 3, none⟩) (.inl (by simp)) (.int .i64 (a : Nat))).set (p := ⟨n, 4, none⟩) (.inl (by simp)) sm).set (p := ⟨n, 5, none⟩) (.inl (by simp)) tv)
  have hoE := ownsRow_base (base' := n) (ownsRow_mod hoQ hMe (by simp; omega)) (by omega)
  have howE := ownsRow_base (base' := n) (ownsRow_mod howQ hMe (by simp; omega)) (by omega)
  revert hhE hME hMe hoE howE
  generalize ((((((wQ.setCell ⟨n, 0, none⟩ (.int .i64 x1)).setCell ⟨n, 1, none⟩ (.int .i64 x2)).setCell ⟨n, 2, none⟩ (.int .i64 x3)).setCell ⟨n, 3, none⟩ (.int .i64 (a : Nat))).setCell ⟨n, 4, none⟩ sm).setCell ⟨n, 5, none⟩ tv) = wE2
  intro hhE hME hMe hoE howE
  have cE := fun o => cellOf (o := o) hhE
  simp (maxSteps := 1000000) (disch := first | omega | (simp only [sizeAlloc, sizeDrew, sizeSet, sizePut] <;> omega) | fail) only [GS, TT_eq, TTl, Nat.reduceAdd, Nat.reduceMul, Nat.reduceSub, Nat.reduceDiv, Nat.reduceMod, Nat.reducePow, Nat.reduceEqDiff, ↓reduceIte, reduceCtorEq, Int.reduceToNat, Int.reduceAdd, Int.reduceSub, Int.reduceMul, loadW]
  exact ⟨_, cE 0, _, cE 1, _, cE 2, _, cE 3, _, cE 4, _, cE 5, h1 _ sm tv _ hX.symm howE hoE hME⟩
theorem Same_cps (sa sb : Value) (xs ys : List (List UInt8)) (w : World) (R : Ending → World → Prop) (hx : xs.length ≤ 9223372036854775807) (ha : Rd w 1 sa xs.length (xs.map strV)) (hb : Rd w 1 sb ys.length (ys.map strV))
    (hR : ∀ n, R (.returned (.bool (decide (xs = ys)))) (w.drewN n)) : Calls Tryz.prog 49 #[sa, sb] w R := by
  have hR0 := hR 0
  rw [World.drewN_zero] at hR0
  have hl2 := hx
  by_cases hl : xs.length = ys.length
  · obtain ⟨a, ca, rfl⟩ := ha.slice
    obtain ⟨b, cb, rfl⟩ := hb.slice
    refine calls_go 4000 okT Tryz.func49 rfl (rs := [.tmp 4]) rfl Tryz.ntmps49 (args := [.slice a xs.length ca, .slice b ys.length cb]) ?_
    simp (maxSteps := 1000000) (disch := first | omega | (simp only [sizeAlloc, sizeDrew, sizeSet, sizePut] <;> omega) | fail) only [GS, TT_eq, TTl, Nat.reduceAdd, Nat.reduceMul, Nat.reduceSub, Nat.reduceDiv, Nat.reduceMod, Nat.reducePow, Nat.reduceEqDiff, ↓reduceIte, reduceCtorEq, Int.reduceToNat, Int.reduceAdd, Int.reduceSub, Int.reduceMul]
    refine hold_loop okT (rs := [.tmp 4]) rfl [5] [4, 11, 12, 13, 14, 15, 16, 17, 18, 19, 20, 21, 22, 23, 24, 25] (fun vs w' => ∃ k n : Nat, k ≤ xs.length ∧ vs = [.int .i64 k] ∧ w' = w.drewN n ∧ xs.take k = ys.take k) (fun vs _ => match vs with | [.int _ i] => xs.length - i.toNat | _ => 0) (by kernel_rfl) ⟨0, 0, by omega, rfl, rfl, by simp⟩ ?_
    rintro vs w' J ⟨k, n, hk, rfl, rfl, ht⟩
    by_cases hlt : k < xs.length
    · obtain ⟨b1, o1, c1, e1, _, g1⟩ := ha.at (by omega) (by omega)
      obtain ⟨b2, o2, c2, e2, _, g2⟩ := hb.at (by omega) (by omega)
      have f1 := g1 k _ (getS hlt)
      have f2 := g2 k _ (getS (hl ▸ hlt))
      rw [Value.slice.injEq] at e1 e2
      obtain ⟨rfl, -, -⟩ := e1
      obtain ⟨rfl, -, -⟩ := e2
      by_cases he : xs[k] = ys[k]
      · simp (maxSteps := 1000000) (disch := first | omega | (simp only [sizeAlloc, sizeDrew, sizeSet, sizePut] <;> omega) | fail) only [GS, TT_eq, TTl, Nat.reduceAdd, Nat.reduceMul, Nat.reduceSub, Nat.reduceDiv, Nat.reduceMod, Nat.reducePow, Nat.reduceEqDiff, ↓reduceIte, reduceCtorEq, Int.reduceToNat, Int.reduceAdd, Int.reduceSub, Int.reduceMul, f1, f2, he]
        refine ⟨by kernel_rfl, fun m => ⟨⟨k + 1, n + m, by omega, rfl, rfl, ?_⟩, by omega⟩⟩
        rw [List.take_succ_eq_append_getElem hlt, List.take_succ_eq_append_getElem (hl ▸ hlt), ht, he]
      · simp (maxSteps := 1000000) (disch := first | omega | (simp only [sizeAlloc, sizeDrew, sizeSet, sizePut] <;> omega) | fail) only [GS, TT_eq, TTl, Nat.reduceAdd, Nat.reduceMul, Nat.reduceSub, Nat.reduceDiv, Nat.reduceMod, Nat.reducePow, Nat.reduceEqDiff, ↓reduceIte, reduceCtorEq, Int.reduceToNat, Int.reduceAdd, Int.reduceSub, Int.reduceMul, f1, f2, he]
        rw [decide_eq_false (fun e => he (by subst e; rfl))] at hR
        exact ⟨by kernel_rfl, fun m => hR _⟩
    · have e : k = xs.length := by omega
      subst e
      have e2 : xs = ys := by rw [List.take_length] at ht; rw [ht, hl, List.take_length]
      simp (maxSteps := 1000000) (disch := first | omega | (simp only [sizeAlloc, sizeDrew, sizeSet, sizePut] <;> omega) | fail) only [GS, TT_eq, TTl, Nat.reduceAdd, Nat.reduceMul, Nat.reduceSub, Nat.reduceDiv, Nat.reduceMod, Nat.reducePow, Nat.reduceEqDiff, ↓reduceIte, reduceCtorEq, Int.reduceToNat, Int.reduceAdd, Int.reduceSub, Int.reduceMul]
      rw [decide_eq_true e2] at hR
      exact hR n
  · obtain ⟨a, ca, rfl⟩ := ha.slice
    obtain ⟨b, cb, rfl⟩ := hb.slice
    refine calls_go 4000 okT Tryz.func49 rfl (rs := [.tmp 4]) rfl Tryz.ntmps49 (args := [.slice a xs.length ca, .slice b ys.length cb]) ?_
    simp (maxSteps := 1000000) (disch := first | omega | (simp only [sizeAlloc, sizeDrew, sizeSet, sizePut] <;> omega) | fail) only [GS, TT_eq, TTl, Nat.reduceAdd, Nat.reduceMul, Nat.reduceSub, Nat.reduceDiv, Nat.reduceMod, Nat.reducePow, Nat.reduceEqDiff, ↓reduceIte, reduceCtorEq, Int.reduceToNat, Int.reduceAdd, Int.reduceSub, Int.reduceMul]
    rw [decide_eq_false (fun e => hl (by rw [e]))] at hR0
    exact hR0
end Go.Proofs.YtdflchgfhmjhbaaGreatDoor
