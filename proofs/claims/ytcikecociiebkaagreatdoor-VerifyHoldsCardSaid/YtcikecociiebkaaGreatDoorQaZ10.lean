/-
  receipt.decode (walk). receipt.Decode (walk). chirographlaw26: Long, own; chirographref26.Same (walks). receipt: what is encoded is decoded, and what is decoded is encoded as it was; no term begins another one (plain). chirographlaw26: one, alive (walks); a receipt that comes in. What a verifier answers (plain); what is verified and was made was seen.
-/
import Derived.Test.YtcikecociiebkaaGreatDoorQaZ9
import Derived.Test.YtcikecociiebkaaGreatDoorQaZ7
import Derived.Test.YtcikecociiebkaaGreatDoorQaZ2
import Derived.Test.YtcikecociiebkaaGreatDoorQaZ4
import Derived.Test.YtcikecociiebkaaGreatDoorQaZ5
import Derived.Test.YtcikecociiebkaaGreatDoorQaZ8
set_option linter.unusedSimpArgs false
set_option linter.unusedVariables false
set_option maxRecDepth 20000
namespace Go.Proofs.YtcikecociiebkaaGreatDoor
open Go Go.Wk Go.RowKit
attribute [local irreducible] go Hold
open Go.Lib
set_option maxRecDepth 20000 in
set_option maxHeartbeats 32000000 in
theorem eDec_cps (S : List UInt8) (hS : S.length ≤ maxLen) (w : World) (R : Ending → World → Prop)
    (h1 : ∀ r sm st w', decRc S = .ok r → w'.ownsRow w.heap.size 48 2 sm r.mbs.length (r.mbs.flatMap mbC) → w'.ownsRow w.heap.size 9 1 st r.tags.length (r.tags.map strV) → Mod [] w w' → R (.returned (rcV r sm st)) w') (h0 : ∀ c w', decRc S = .error c → Mod [] w w' → R (.panicked (rwV c)) w') :
    Calls Tryz.prog 80 #[.string ⟨S.toArray⟩] w R := by
  generalize hX : decRc S = X at h1 h0
  unfold decRc at hX
  refine calls_go 4000 okT Tryz.func80 rfl (rs := [.cell 2 41]) rfl Tryz.ntmps80 (args := [.string ⟨S.toArray⟩]) ?_
  by_cases hl : (((S.length : Nat) : Int) ≤ 16384)
  rotate_left
  · rw [if_pos (by omega)] at hX
    simp (maxSteps := 1000000) (disch := first | omega | (simp only [sizeAlloc, sizeDrew, sizeSet, sizePut] <;> omega) | fail) only [GS, TT_eq, TTl, Nat.reduceAdd, Nat.reduceMul, Nat.reduceSub, Nat.reduceDiv, Nat.reduceMod, Nat.reducePow, Nat.reduceEqDiff, ↓reduceIte, reduceCtorEq, Int.reduceToNat, Int.reduceAdd, Int.reduceSub, Int.reduceMul, hl]
    refine ⟨fok113, eMust_cps _ 5 _ _ (fun h => absurd h (by simp)) (fun _ => .inr ⟨_, rfl, hold_ex okT (rs := [.cell 2 41]) rfl ?_⟩)⟩
    simp (maxSteps := 1000000) (disch := first | omega | (simp only [sizeAlloc, sizeDrew, sizeSet, sizePut] <;> omega) | fail) only [GS, TT_eq, TTl, Nat.reduceAdd, Nat.reduceMul, Nat.reduceSub, Nat.reduceDiv, Nat.reduceMod, Nat.reducePow, Nat.reduceEqDiff, ↓reduceIte, reduceCtorEq, Int.reduceToNat, Int.reduceAdd, Int.reduceSub, Int.reduceMul]
    exact h0 5 _ hX.symm ((Mod.refl [] w).alloc _)
  rw [if_neg (by omega)] at hX
  simp (maxSteps := 1000000) (disch := first | omega | (simp only [sizeAlloc, sizeDrew, sizeSet, sizePut] <;> omega) | fail) only [GS, TT_eq, TTl, Nat.reduceAdd, Nat.reduceMul, Nat.reduceSub, Nat.reduceDiv, Nat.reduceMod, Nat.reducePow, Nat.reduceEqDiff, ↓reduceIte, reduceCtorEq, Int.reduceToNat, Int.reduceAdd, Int.reduceSub, Int.reduceMul, hl]
  have hM0 := (Mod.refl [] w).alloc (.cells #[.int .i64 0, .int .i64 0, .int .i64 0, .int .i64 0, .slice none 0 0, .slice none 0 0] 41)
  have hh := heapNew (w := w) (o := .cells #[.int .i64 0, .int .i64 0, .int .i64 0, .int .i64 0, .slice none 0 0, .slice none 0 0] 41)
  generalize w.alloc (.cells #[.int .i64 0, .int .i64 0, .int .i64 0, .int .i64 0, .slice none 0 0, .slice none 0 0] 41) = w1 at hM0 hh ⊢
  generalize hn : w.heap.size = n at *
  have hge : w.heap.size ≤ n := by omega
  have hnl := (Array.getElem?_eq_some_iff.1 hh).1
  refine ⟨fok113, eMust_cps _ 5 _ _ (fun _ => .inl ⟨_, rfl, hold_ops okT (rs := [.cell 2 41]) rfl ?_⟩) (fun h => absurd h (by simp))⟩
  simp (maxSteps := 1000000) (disch := first | omega | (simp only [sizeAlloc, sizeDrew, sizeSet, sizePut] <;> omega) | fail) only [GS, TT_eq, TTl, Nat.reduceAdd, Nat.reduceMul, Nat.reduceSub, Nat.reduceDiv, Nat.reduceMod, Nat.reducePow, Nat.reduceEqDiff, ↓reduceIte, reduceCtorEq, Int.reduceToNat, Int.reduceAdd, Int.reduceSub, Int.reduceMul]
  refine ⟨fok123, eRow_cps S 5 (by decide) (by decide) hS _ _ (fun l lv w2 hl hlo hM2 => .inl ⟨_, rfl, hold_ops okT (rs := [.cell 2 41]) rfl ?_⟩) (fun hl w2 hM2 => .inr ⟨_, rfl, hold_ex okT (rs := [.cell 2 41]) rfl ?_⟩)⟩
  rotate_left
  · rw [hl] at hX
    simp (maxSteps := 1000000) (disch := first | omega | (simp only [sizeAlloc, sizeDrew, sizeSet, sizePut] <;> omega) | fail) only [GS, TT_eq, TTl, Nat.reduceAdd, Nat.reduceMul, Nat.reduceSub, Nat.reduceDiv, Nat.reduceMod, Nat.reducePow, Nat.reduceEqDiff, ↓reduceIte, reduceCtorEq, Int.reduceToNat, Int.reduceAdd, Int.reduceSub, Int.reduceMul]
    exact h0 7 _ hX.symm (hM0.trans hM2 (by simp))
  rw [hl] at hX
  simp only at hX
  obtain ⟨-, -, hl5, hpc, -⟩ := rowR_is hl
  obtain ⟨t0, t1, t2, t3, t4, rfl⟩ := len5 (show l.length = 5 by omega)
  simp only [List.getD_cons_zero, List.getD_cons_succ] at hX
  unfold decL at hX
  have z0 := (check0 (hpc t0 (by simp))).2.2.1
  have z1 := (check0 (hpc t1 (by simp))).2.2.1
  have z2 := (check0 (hpc t2 (by simp))).2.2.1
  have z3 := (check0 (hpc t3 (by simp))).2.2.1
  have z4 := (check0 (hpc t4 (by simp))).2.2.1
  have hh2 := hM2.get hh (by simp)
  have hM02 := hM0.trans hM2 (by simp)
  obtain ⟨b1, o1, c1, e1, hc1, g1⟩ := (Rd.own hlo).at (by simp) (by simp)
  have f0 : w2.cell? ⟨b1, o1, none⟩ = some (.string ⟨t0.toArray⟩) := g1 0 _ rfl
  have f1 : w2.cell? ⟨b1, o1 + 1, none⟩ = some (.string ⟨t1.toArray⟩) := g1 1 _ rfl
  have f2 : w2.cell? ⟨b1, o1 + 2, none⟩ = some (.string ⟨t2.toArray⟩) := g1 2 _ rfl
  have f3 : w2.cell? ⟨b1, o1 + 3, none⟩ = some (.string ⟨t3.toArray⟩) := g1 3 _ rfl
  have f4 : w2.cell? ⟨b1, o1 + 4, none⟩ = some (.string ⟨t4.toArray⟩) := g1 4 _ rfl
  subst e1
  have hb1 : n < b1 ∧ b1 < w2.heap.size := by
    have h3 := hlo.lt b1 (by simp [Value.ownBlock])
    omega
  clear hlo g1 hl hM0 hM2 hh
  simp (maxSteps := 1000000) (disch := first | omega | (simp only [sizeAlloc, sizeDrew, sizeSet, sizePut] <;> omega) | fail) only [GS, TT_eq, TTl, Nat.reduceAdd, Nat.reduceMul, Nat.reduceSub, Nat.reduceDiv, Nat.reduceMod, Nat.reducePow, Nat.reduceEqDiff, ↓reduceIte, reduceCtorEq, Int.reduceToNat, Int.reduceAdd, Int.reduceSub, Int.reduceMul]
  refine hold_draw okT (rs := [.cell 2 41]) rfl [0, 1, 3, 0, 8, 8, 56, 127, 255] [0, 1, 2, 3, 4, 5, 6, 7, 8] (by kernel_rfl) (by kernel_rfl) ?_
  have hh3 : (w2.drewN 1).heap[n]? = _ := hh2
  have f0 : (w2.drewN 1).cell? ⟨b1, o1, none⟩ = some (.string ⟨t0.toArray⟩) := f0
  have f1 : (w2.drewN 1).cell? ⟨b1, o1 + 1, none⟩ = some (.string ⟨t1.toArray⟩) := f1
  have f2 : (w2.drewN 1).cell? ⟨b1, o1 + 2, none⟩ = some (.string ⟨t2.toArray⟩) := f2
  have f3 : (w2.drewN 1).cell? ⟨b1, o1 + 3, none⟩ = some (.string ⟨t3.toArray⟩) := f3
  have f4 : (w2.drewN 1).cell? ⟨b1, o1 + 4, none⟩ = some (.string ⟨t4.toArray⟩) := f4
  have hM03 := hM02.drewN 1
  have hb1 : n < b1 ∧ b1 < (w2.drewN 1).heap.size := hb1
  generalize w2.drewN 1 = w3 at *
  simp (maxSteps := 1000000) (disch := first | omega | (simp only [sizeAlloc, sizeDrew, sizeSet, sizePut] <;> omega) | fail) only [GS, TT_eq, TTl, Nat.reduceAdd, Nat.reduceMul, Nat.reduceSub, Nat.reduceDiv, Nat.reduceMod, Nat.reducePow, Nat.reduceEqDiff, ↓reduceIte, reduceCtorEq, Int.reduceToNat, Int.reduceAdd, Int.reduceSub, Int.reduceMul, f0]
  have hDt := tData_cps RW (by unfold maxLen; decide)
  rw [dRW] at hDt
  generalize hD : (dataS RW).1 = D at hDt hX
  unfold stV RW at hDt
  simp only at hDt
  refine ⟨fok57, hDt _ _ fun w4 hM4 => .inl ⟨_, rfl, ?_⟩⟩
  first | refine ⟨cellM f0 hM4, hold_dops okT (rs := [.cell 2 41]) rfl ?_⟩ | refine hold_dops okT (rs := [.cell 2 41]) rfl ?_
  simp (maxSteps := 1000000) (disch := first | omega | (simp only [sizeAlloc, sizeDrew, sizeSet, sizePut] <;> omega) | fail) only [GS, TT_eq, TTl, Nat.reduceAdd, Nat.reduceMul, Nat.reduceSub, Nat.reduceDiv, Nat.reduceMod, Nat.reducePow, Nat.reduceEqDiff, ↓reduceIte, reduceCtorEq, Int.reduceToNat, Int.reduceAdd, Int.reduceSub, Int.reduceMul]
  refine ⟨fok69, eMade_cps D 0 _ _ (fun _ => .inl ⟨_, rfl, ?_⟩) (fun h => absurd rfl h)⟩
  first | refine ⟨cellM f0 hM4, hold_dops okT (rs := [.cell 2 41]) rfl ?_⟩ | refine hold_dops okT (rs := [.cell 2 41]) rfl ?_
  have hh4 := hM4.get hh3 (by simp)
  have hM04 := hM03.trans hM4 (by simp)
  have f1 := cellM f1 hM4
  have f2 := cellM f2 hM4
  have f3 := cellM f3 hM4
  have f4 := cellM f4 hM4
  have hb1 : n < b1 ∧ b1 < w4.heap.size := ⟨hb1.1, Nat.lt_of_lt_of_le hb1.2 hM4.size⟩
  clear f0 hh2 hh3 hM4 hM02 hM03
  by_cases h0D : t0 = D
  rotate_left
  · rw [if_neg h0D] at hX
    simp (maxSteps := 1000000) (disch := first | omega | (simp only [sizeAlloc, sizeDrew, sizeSet, sizePut] <;> omega) | fail) only [GS, TT_eq, TTl, Nat.reduceAdd, Nat.reduceMul, Nat.reduceSub, Nat.reduceDiv, Nat.reduceMod, Nat.reducePow, Nat.reduceEqDiff, ↓reduceIte, reduceCtorEq, Int.reduceToNat, Int.reduceAdd, Int.reduceSub, Int.reduceMul, h0D]
    refine ⟨fok113, eMust_cps _ 7 _ _ (fun h => absurd h (by simp)) (fun _ => .inr ⟨_, rfl, ?_⟩)⟩
    first | refine fun fs' => hold_ex okT (rs := [.cell 2 41]) rfl ?_ | refine hold_ex okT (rs := [.cell 2 41]) rfl ?_
    simp (maxSteps := 1000000) (disch := first | omega | (simp only [sizeAlloc, sizeDrew, sizeSet, sizePut] <;> omega) | fail) only [GS, TT_eq, TTl, Nat.reduceAdd, Nat.reduceMul, Nat.reduceSub, Nat.reduceDiv, Nat.reduceMod, Nat.reducePow, Nat.reduceEqDiff, ↓reduceIte, reduceCtorEq, Int.reduceToNat, Int.reduceAdd, Int.reduceSub, Int.reduceMul]
    exact h0 7 _ hX.symm hM04
  rw [if_pos h0D] at hX
  simp (maxSteps := 1000000) (disch := first | omega | (simp only [sizeAlloc, sizeDrew, sizeSet, sizePut] <;> omega) | fail) only [GS, TT_eq, TTl, Nat.reduceAdd, Nat.reduceMul, Nat.reduceSub, Nat.reduceDiv, Nat.reduceMod, Nat.reducePow, Nat.reduceEqDiff, ↓reduceIte, reduceCtorEq, Int.reduceToNat, Int.reduceAdd, Int.reduceSub, Int.reduceMul, h0D]
  refine ⟨fok113, eMust_cps _ 7 _ _ (fun _ => .inl ⟨_, rfl, ?_⟩) (fun h => absurd h (by simp))⟩
  refine hold_dops okT (rs := [.cell 2 41]) rfl ?_
  simp (maxSteps := 1000000) (disch := first | omega | (simp only [sizeAlloc, sizeDrew, sizeSet, sizePut] <;> omega) | fail) only [GS, TT_eq, TTl, Nat.reduceAdd, Nat.reduceMul, Nat.reduceSub, Nat.reduceDiv, Nat.reduceMod, Nat.reducePow, Nat.reduceEqDiff, ↓reduceIte, reduceCtorEq, Int.reduceToNat, Int.reduceAdd, Int.reduceSub, Int.reduceMul, f1]
  refine ⟨fok124, wReadTxn_cps t1 (by unfold maxLen; omega) _ _ (fun x w5 hx hM5 => .inl ⟨_, rfl, hold_ops okT (rs := [.cell 2 41]) rfl ?_⟩) (fun hx w5 hM5 => .inl ⟨_, rfl, hold_ops okT (rs := [.cell 2 41]) rfl ?_⟩)⟩
  rotate_left
  · rw [hx] at hX
    simp only at hX
    unfold txV
    simp (maxSteps := 1000000) (disch := first | omega | (simp only [sizeAlloc, sizeDrew, sizeSet, sizePut] <;> omega) | fail) only [GS, TT_eq, TTl, Nat.reduceAdd, Nat.reduceMul, Nat.reduceSub, Nat.reduceDiv, Nat.reduceMod, Nat.reducePow, Nat.reduceEqDiff, ↓reduceIte, reduceCtorEq, Int.reduceToNat, Int.reduceAdd, Int.reduceSub, Int.reduceMul]
    have hM05 := hM04.trans hM5 (by simp)
    have hs5 := hM05.size
    refine ⟨fok113, eMust_cps _ 7 _ _ (fun h => absurd h (by simp)) (fun _ => .inr ⟨_, rfl, hold_ex okT (rs := [.cell 2 41]) rfl ?_⟩)⟩
    simp (maxSteps := 1000000) (disch := first | omega | (simp only [sizeAlloc, sizeDrew, sizeSet, sizePut] <;> omega) | fail) only [GS, TT_eq, TTl, Nat.reduceAdd, Nat.reduceMul, Nat.reduceSub, Nat.reduceDiv, Nat.reduceMod, Nat.reducePow, Nat.reduceEqDiff, ↓reduceIte, reduceCtorEq, Int.reduceToNat, Int.reduceAdd, Int.reduceSub, Int.reduceMul]
    exact h0 7 _ hX.symm ((((hM05.alloc (.cells #[.int .i64 0, .int .i64 0, .int .i64 0] 38)).set (p := ⟨w5.heap.size, 0, none⟩) (.inr hs5) _).set (p := ⟨w5.heap.size, 1, none⟩) (.inr hs5) _).set (p := ⟨w5.heap.size, 2, none⟩) (.inr hs5) _)
  rw [hx] at hX
  simp only at hX
  have hMM := wReadMembers_cps x t3 (by unfold maxLen; omega)
  obtain ⟨x1, x2, x3⟩ := x
  unfold txV at hMM ⊢
  simp only at hMM ⊢
  simp (maxSteps := 1000000) (disch := first | omega | (simp only [sizeAlloc, sizeDrew, sizeSet, sizePut] <;> omega) | fail) only [GS, TT_eq, TTl, Nat.reduceAdd, Nat.reduceMul, Nat.reduceSub, Nat.reduceDiv, Nat.reduceMod, Nat.reducePow, Nat.reduceEqDiff, ↓reduceIte, reduceCtorEq, Int.reduceToNat, Int.reduceAdd, Int.reduceSub, Int.reduceMul]
  have hb5 := st3 (heapNew (w := w5) (o := .cells #[.int .i64 0, .int .i64 0, .int .i64 0] 38)) (x := .int .i64 x1) (y := .int .i64 x2) (z := .int .i64 x3)
  have hM56 : Mod [] w5 ((((w5.alloc (.cells #[.int .i64 0, .int .i64 0, .int .i64 0] 38)).setCell ⟨w5.heap.size, 0, none⟩ (.int .i64 x1)).setCell ⟨w5.heap.size, 1, none⟩ (.int .i64 x2)).setCell ⟨w5.heap.size, 2, none⟩ (.int .i64 x3)) := ((((Mod.refl [] w5).alloc (.cells #[.int .i64 0, .int .i64 0, .int .i64 0] 38)).set (p := ⟨w5.heap.size, 0, none⟩) (.inr (Nat.le_refl _)) (.int .i64 x1)).set (p := ⟨w5.heap.size, 1, none⟩) (.inr (Nat.le_refl _)) (.int .i64 x2)).set (p := ⟨w5.heap.size, 2, none⟩) (.inr (Nat.le_refl _)) (.int .i64 x3)
  have hM46 := hM5.trans hM56 (by simp)
  have hs45 := hM5.size
  refine ⟨fok113, eMust_cps _ 7 _ _ (fun _ => .inl ⟨_, rfl, hold_ops okT (rs := [.cell 2 41]) rfl ?_⟩) (fun h => absurd h (by simp))⟩
  revert hb5 hM56 hM46
  generalize (((w5.alloc (.cells #[.int .i64 0, .int .i64 0, .int .i64 0] 38)).setCell ⟨w5.heap.size, 0, none⟩ (.int .i64 x1)).setCell ⟨w5.heap.size, 1, none⟩ (.int .i64 x2)).setCell ⟨w5.heap.size, 2, none⟩ (.int .i64 x3) = w6
  intro hb5 hM56 hM46
  have hb4' : n < w5.heap.size ∧ b1 < w5.heap.size := by
    have := (Array.getElem?_eq_some_iff.1 hh4).1
    omega
  generalize w5.heap.size = b4 at *
  have hh6 := hM46.get hh4 (by simp)
  have f2 := cellM f2 hM46
  have f3 := cellM f3 hM46
  have f4 := cellM f4 hM46
  have hM06 := hM04.trans hM46 (by simp)
  clear f1 hM46 hM56 hM5 hM04 hh4
  simp (maxSteps := 1000000) (disch := first | omega | (simp only [sizeAlloc, sizeDrew, sizeSet, sizePut] <;> omega) | fail) only [GS, TT_eq, TTl, Nat.reduceAdd, Nat.reduceMul, Nat.reduceSub, Nat.reduceDiv, Nat.reduceMod, Nat.reducePow, Nat.reduceEqDiff, ↓reduceIte, reduceCtorEq, Int.reduceToNat, Int.reduceAdd, Int.reduceSub, Int.reduceMul]
  refine hold_draw okT (rs := [.cell 2 41]) rfl [0, 0, 2, 6, 14, 0, 32, 96, 254, 1, 1023, 2047, 4095, 8191, 16383] [0, 1, 2, 3, 5, 6, 7, 9, 4, 8, 10, 11, 12, 13, 14] (by kernel_rfl) (by kernel_rfl) ?_
  have hh7 : (w6.drewN 1).heap[n]? = _ := hh6
  have hb7 : (w6.drewN 1).heap[b4]? = _ := hb5
  have f2 : (w6.drewN 1).cell? ⟨b1, o1 + 2, none⟩ = some (.string ⟨t2.toArray⟩) := f2
  have f3 : (w6.drewN 1).cell? ⟨b1, o1 + 3, none⟩ = some (.string ⟨t3.toArray⟩) := f3
  have f4 : (w6.drewN 1).cell? ⟨b1, o1 + 4, none⟩ = some (.string ⟨t4.toArray⟩) := f4
  have hM07 := hM06.drewN 1
  generalize w6.drewN 1 = w7 at *
  have c7 := fun o => cellOf (o := o) hb7
  have hag : ∀ w' : World, Mod [] w7 w' → aggO (consO (w'.cell? ⟨b4, 0, none⟩) (consO (w'.cell? ⟨b4, 1, none⟩) (consO (w'.cell? ⟨b4, 2, none⟩) (some [])))) = some (.agg #[.int .i64 x1, .int .i64 x2, .int .i64 x3]) := by
    intro w' hm
    rw [cellM (show w7.cell? ⟨b4, 0, none⟩ = some (.int .i64 x1) from c7 0) hm, cellM (show w7.cell? ⟨b4, 1, none⟩ = some (.int .i64 x2) from c7 1) hm, cellM (show w7.cell? ⟨b4, 2, none⟩ = some (.int .i64 x3) from c7 2) hm]
    rfl
  simp (maxSteps := 1000000) (disch := first | omega | (simp only [sizeAlloc, sizeDrew, sizeSet, sizePut] <;> omega) | fail) only [GS, TT_eq, TTl, Nat.reduceAdd, Nat.reduceMul, Nat.reduceSub, Nat.reduceDiv, Nat.reduceMod, Nat.reducePow, Nat.reduceEqDiff, ↓reduceIte, reduceCtorEq, Int.reduceToNat, Int.reduceAdd, Int.reduceSub, Int.reduceMul, c7, f2, f4]
  refine ⟨fok125, eNumber_cps t2 (by unfold maxLen; omega) _ _ (fun a w8 ha hM8 => .inl ⟨_, rfl, ?_⟩) (fun ha w8 hM8 => .inr ⟨_, rfl, fun fs' => hold_ex okT (rs := [.cell 2 41]) rfl ?_⟩)⟩
  rotate_left
  · rw [ha] at hX
    simp (maxSteps := 1000000) (disch := first | omega | (simp only [sizeAlloc, sizeDrew, sizeSet, sizePut] <;> omega) | fail) only [GS, TT_eq, TTl, Nat.reduceAdd, Nat.reduceMul, Nat.reduceSub, Nat.reduceDiv, Nat.reduceMod, Nat.reducePow, Nat.reduceEqDiff, ↓reduceIte, reduceCtorEq, Int.reduceToNat, Int.reduceAdd, Int.reduceSub, Int.reduceMul]
    exact h0 7 _ hX.symm (hM07.trans hM8 (by simp))
  rw [ha] at hX
  simp only at hX
  refine ⟨(by repeat' (first | exact hag _ hM8 | exact cellM f4 hM8 | apply And.intro)), hold_dops okT (rs := [.cell 2 41]) rfl ?_⟩
  simp (maxSteps := 1000000) (disch := first | omega | (simp only [sizeAlloc, sizeDrew, sizeSet, sizePut] <;> omega) | fail) only [GS, TT_eq, TTl, Nat.reduceAdd, Nat.reduceMul, Nat.reduceSub, Nat.reduceDiv, Nat.reduceMod, Nat.reducePow, Nat.reduceEqDiff, ↓reduceIte, reduceCtorEq, Int.reduceToNat, Int.reduceAdd, Int.reduceSub, Int.reduceMul]
  refine ⟨fok123, eRow_cps t4 (-1) (by decide) (by decide) (by unfold maxLen; omega) _ _ (fun tags tv w9 htg hto hM9 => .inl ⟨_, rfl, ?_⟩) (fun htg w9 hM9 => .inr ⟨_, rfl, fun fs' => hold_ex okT (rs := [.cell 2 41]) rfl ?_⟩)⟩
  rotate_left
  · rw [htg] at hX
    simp (maxSteps := 1000000) (disch := first | omega | (simp only [sizeAlloc, sizeDrew, sizeSet, sizePut] <;> omega) | fail) only [GS, TT_eq, TTl, Nat.reduceAdd, Nat.reduceMul, Nat.reduceSub, Nat.reduceDiv, Nat.reduceMod, Nat.reducePow, Nat.reduceEqDiff, ↓reduceIte, reduceCtorEq, Int.reduceToNat, Int.reduceAdd, Int.reduceSub, Int.reduceMul]
    exact h0 7 _ hX.symm ((hM07.trans hM8 (by simp)).trans hM9 (by simp))
  rw [htg] at hX
  simp only at hX
  have hM79 := hM8.trans hM9 (by simp)
  refine ⟨(by repeat' (first | exact hag _ hM79 | apply And.intro)), hold_dops okT (rs := [.cell 2 41]) rfl ?_⟩
  have hM09 := hM07.trans hM79 (by simp)
  have hh9 := hM79.get hh7 (by simp)
  have hb9 := hM79.get hb7 (by simp)
  have f3 := cellM f3 hM79
  have htl := (rowR_is htg).2.2.2.2
  have htc := (rowR_is htg).2.2.2.1
  have c9 := fun o => cellOf (o := o) hh9
  have x9 := fun o => frozenOf (o := o) hh9
  have hsv := ownsRow_one hto
  have hs8 := hM8.size
  have hs7 := hM07.size
  have hn7 := (Array.getElem?_eq_some_iff.1 hb7).1
  clear hag f2 f4 c7 hh6 hb5 hM06 hh7 hb7
  simp (maxSteps := 1000000) (disch := first | omega | (simp only [sizeAlloc, sizeDrew, sizeSet, sizePut] <;> omega) | fail) only [GS, TT_eq, TTl, Nat.reduceAdd, Nat.reduceMul, Nat.reduceSub, Nat.reduceDiv, Nat.reduceMod, Nat.reducePow, Nat.reduceEqDiff, ↓reduceIte, reduceCtorEq, Int.reduceToNat, Int.reduceAdd, Int.reduceSub, Int.reduceMul, c9, x9, cellsL_one hsv, hsv]
  have hhA : (((((w9.setCell ⟨n, 0, none⟩ (.int .i64 x1)).setCell ⟨n, 1, none⟩ (.int .i64 x2)).setCell ⟨n, 2, none⟩ (.int .i64 x3)).setCell ⟨n, 3, none⟩ (.int .i64 (a : Nat))).setCell ⟨n, 5, none⟩ tv).heap[n]? = some (.cells #[.int .i64 x1, .int .i64 x2, .int .i64 x3, .int .i64 (a : Nat), .slice none 0 0, tv] 41 (0, 0)) := st5r hh9
  have hMn : Mod [n] w9 (((((w9.setCell ⟨n, 0, none⟩ (.int .i64 x1)).setCell ⟨n, 1, none⟩ (.int .i64 x2)).setCell ⟨n, 2, none⟩ (.int .i64 x3)).setCell ⟨n, 3, none⟩ (.int .i64 (a : Nat))).setCell ⟨n, 5, none⟩ tv) := ((((((Mod.refl [n] w9).set (p := ⟨n, 0, none⟩) (.inl (by simp)) (.int .i64 x1)).set (p := ⟨n, 1, none⟩) (.inl (by simp)) (.int .i64 x2)).set (p := ⟨n, 2, none⟩) (.inl (by simp)) (.int .i64 x3)).set (p := ⟨n, 3, none⟩) (.inl (by simp)) (.int .i64 (a : Nat))).set (p := ⟨n, 5, none⟩) (.inl (by simp)) tv)
  have hMA : Mod [] w (((((w9.setCell ⟨n, 0, none⟩ (.int .i64 x1)).setCell ⟨n, 1, none⟩ (.int .i64 x2)).setCell ⟨n, 2, none⟩ (.int .i64 x3)).setCell ⟨n, 3, none⟩ (.int .i64 (a : Nat))).setCell ⟨n, 5, none⟩ tv) := (((((hM09.set (p := ⟨n, 0, none⟩) (.inr hge) (.int .i64 x1)).set (p := ⟨n, 1, none⟩) (.inr hge) (.int .i64 x2)).set (p := ⟨n, 2, none⟩) (.inr hge) (.int .i64 x3)).set (p := ⟨n, 3, none⟩) (.inr hge) (.int .i64 (a : Nat))).set (p := ⟨n, 5, none⟩) (.inr hge) tv)
  have hbA := hMn.get hb9 (by simp; omega)
  have hoA := ownsRow_mod hto hMn (by simp; omega)
  have f3 := cellMS f3 hMn (by simp; omega)
  have hsA := hMn.size
  revert hhA hMn hMA hbA hoA f3 hsA
  generalize (((((w9.setCell ⟨n, 0, none⟩ (.int .i64 x1)).setCell ⟨n, 1, none⟩ (.int .i64 x2)).setCell ⟨n, 2, none⟩ (.int .i64 x3)).setCell ⟨n, 3, none⟩ (.int .i64 (a : Nat))).setCell ⟨n, 5, none⟩ tv) = wA
  intro hhA hMn hMA hbA hoA f3 hsA
  have hs9 := hM9.size
  clear c9 x9 hsv hto hh9 hb9 hMn hM79 hM8 hM9 hM07 hM09
  refine hold_makeMapW rfl fun wB hmap hMB => hold_ops okT (rs := [.cell 2 41]) rfl ?_
  have hhB := hMB.get hhA (by simp)
  have hbB := hMB.get hbA (by simp)
  have hoB := ownsRow_mod hoA hMB (by simp)
  have f3 := cellM f3 hMB
  have hM0B := hMA.trans hMB (by simp)
  have hsB := hMB.size
  have hsA0 := hMA.size
  have hnA := (Array.getElem?_eq_some_iff.1 hhA).1
  have hbAl := (Array.getElem?_eq_some_iff.1 hbA).1
  have hb1A : b1 < wA.heap.size := by omega
  have hgmp : ∀ g, tv.ownBlock = some g → g < wA.heap.size := fun g hg => (hoA.lt g hg).2
  generalize hmp : wA.heap.size = mp at *
  clear hhA hbA hoA hMB hMA
  unfold decN at hX
  simp (maxSteps := 1000000) (disch := first | omega | (simp only [sizeAlloc, sizeDrew, sizeSet, sizePut] <;> omega) | fail) only [GS, TT_eq, TTl, Nat.reduceAdd, Nat.reduceMul, Nat.reduceSub, Nat.reduceDiv, Nat.reduceMod, Nat.reducePow, Nat.reduceEqDiff, ↓reduceIte, reduceCtorEq, Int.reduceToNat, Int.reduceAdd, Int.reduceSub, Int.reduceMul, f3]
  refine ⟨fok123, eRow_cps t3 (-1) (by decide) (by decide) (by unfold maxLen; omega) _ _ (fun ps pv wC hps hpo hMC => .inl ⟨_, rfl, hold_ops okT (rs := [.cell 2 41]) rfl ?_⟩) (fun hps wC hMC => .inr ⟨_, rfl, hold_ex okT (rs := [.cell 2 41]) rfl ?_⟩)⟩
  rotate_left
  · rw [hps] at hX
    simp (maxSteps := 1000000) (disch := first | omega | (simp only [sizeAlloc, sizeDrew, sizeSet, sizePut] <;> omega) | fail) only [GS, TT_eq, TTl, Nat.reduceAdd, Nat.reduceMul, Nat.reduceSub, Nat.reduceDiv, Nat.reduceMod, Nat.reducePow, Nat.reduceEqDiff, ↓reduceIte, reduceCtorEq, Int.reduceToNat, Int.reduceAdd, Int.reduceSub, Int.reduceMul]
    exact h0 7 _ hX.symm (hM0B.trans hMC (by simp))
  rw [hps] at hX
  simp only at hX
  obtain ⟨-, -, -, hpsc, hpsl⟩ := rowR_is hps
  have hhC := hMC.get hhB (by simp)
  have hbC := hMC.get hbB (by simp)
  have hoC := ownsRow_mod hoB hMC (by simp)
  have f3 := cellM f3 hMC
  have hM0C := hM0B.trans hMC (by simp)
  have hmapC := hmap.mod hMC (by simp)
  have hmpC := hmapC.lt
  have hpR := Rd.own hpo
  have hpblk : ∀ b, blkOf pv = some b → b ∉ [mp] := fun b hb => by
    obtain ⟨pa, pc, rfl⟩ := hpR.slice
    cases pa with
    | none => simp [blkOf] at hb
    | some ad =>
      simp only [blkOf, Option.some.injEq] at hb
      have := hpo.lt b (by simp [Value.ownBlock, hb])
      have := hmap.lt
      simp
      omega
  clear hhB hbB hoB hM0B hmap hMC hpo
  obtain ⟨pa, pc, rfl⟩ := hpR.slice
  simp (maxSteps := 1000000) (disch := first | omega | (simp only [sizeAlloc, sizeDrew, sizeSet, sizePut] <;> omega) | fail) only [GS, TT_eq, TTl, Nat.reduceAdd, Nat.reduceMul, Nat.reduceSub, Nat.reduceDiv, Nat.reduceMod, Nat.reducePow, Nat.reduceEqDiff, ↓reduceIte, reduceCtorEq, Int.reduceToNat, Int.reduceAdd, Int.reduceSub, Int.reduceMul]
  refine hold_loop okT (rs := [.cell 2 41]) rfl [53] [8, 54, 55, 56, 57, 58, 59, 60, 61, 62, 63, 64, 65] (fun vs w' => ∃ (j : Nat) (E : List (Value × Value)) (ns : List Nat), vs = [.int .i64 j] ∧ j ≤ ps.length ∧ ns.length = j ∧ MapW w' mp E ∧ Cnt E ns ∧ numsO ps = (numsO (ps.drop j)).map (ns ++ ·) ∧ Mod [mp] wC w') (fun vs _ => match vs with | [.int _ i] => ps.length - i.toNat | _ => 0) (by kernel_rfl) ⟨0, [], [], rfl, by omega, rfl, hmapC, Cnt.nil, by rw [List.drop_zero]; cases numsO ps <;> rfl, Mod.refl _ _⟩ ?_
  rintro vs wD J ⟨j, E, ns, rfl, hj, hnsl, hMW, hCnt, hN, hMD⟩
  have hM0D : Mod [] w wD := hM0C.trans hMD (fun y hy => .inr (by simp at hy; omega))
  by_cases hlt : j < ps.length
  · obtain ⟨bp, op, cp, ep, _, gp⟩ := (hpR.mod hMD hpblk).at (by omega) (by omega)
    have fs := gp j _ (getS hlt)
    rw [Value.slice.injEq] at ep
    obtain ⟨rfl, -, -⟩ := ep
    have hsc := hpsc _ (List.getElem_mem hlt)
    rw [List.drop_eq_getElem_cons hlt, numsO] at hN
    generalize ps[j] = s at fs hsc hN
    have zs := (check0 hsc).2.2.1
    simp (maxSteps := 1000000) (disch := first | omega | (simp only [sizeAlloc, sizeDrew, sizeSet, sizePut] <;> omega) | fail) only [GS, TT_eq, TTl, Nat.reduceAdd, Nat.reduceMul, Nat.reduceSub, Nat.reduceDiv, Nat.reduceMod, Nat.reducePow, Nat.reduceEqDiff, ↓reduceIte, reduceCtorEq, Int.reduceToNat, Int.reduceAdd, Int.reduceSub, Int.reduceMul, fs]
    refine ⟨fok123, eRow_cps s 2 (by decide) (by decide) (by unfold maxLen; omega) _ _ (fun q qv wE hq hqo hME => .inl ⟨_, rfl, hold_ops okT (rs := [.cell 2 41]) rfl ?_⟩) (fun hq wE hME => .inr ⟨_, rfl, hold_ex okT (rs := [.cell 2 41]) rfl ?_⟩)⟩
    rotate_left
    · rw [hq] at hN
      simp only [Option.map_none] at hN
      rw [hN] at hX
      simp (maxSteps := 1000000) (disch := first | omega | (simp only [sizeAlloc, sizeDrew, sizeSet, sizePut] <;> omega) | fail) only [GS, TT_eq, TTl, Nat.reduceAdd, Nat.reduceMul, Nat.reduceSub, Nat.reduceDiv, Nat.reduceMod, Nat.reducePow, Nat.reduceEqDiff, ↓reduceIte, reduceCtorEq, Int.reduceToNat, Int.reduceAdd, Int.reduceSub, Int.reduceMul]
      exact h0 7 _ hX.symm (hM0D.trans hME (by simp))
    rw [hq] at hN
    simp only at hN
    obtain ⟨-, -, hq2, hqc, -⟩ := rowR_is hq
    obtain ⟨q0, q1, rfl⟩ := len2 (show q.length = 2 by omega)
    simp only [List.getD_cons_zero] at hN
    have zq := (check0 (hqc q0 (by simp))).2.2.1
    obtain ⟨bq, oq, cq, eq, _, gq⟩ := (Rd.own hqo).at (by simp) (by simp)
    have fq : wE.cell? ⟨bq, oq, none⟩ = some (.string ⟨q0.toArray⟩) := gq 0 _ rfl
    subst eq
    simp (maxSteps := 1000000) (disch := first | omega | (simp only [sizeAlloc, sizeDrew, sizeSet, sizePut] <;> omega) | fail) only [GS, TT_eq, TTl, Nat.reduceAdd, Nat.reduceMul, Nat.reduceSub, Nat.reduceDiv, Nat.reduceMod, Nat.reducePow, Nat.reduceEqDiff, ↓reduceIte, reduceCtorEq, Int.reduceToNat, Int.reduceAdd, Int.reduceSub, Int.reduceMul, fq]
    refine ⟨fok125, eNumber_cps q0 (by unfold maxLen; omega) _ _ (fun v wF hv hMF => .inl ⟨_, rfl, hold_ops okT (rs := [.cell 2 41]) rfl ?_⟩) (fun hv wF hMF => .inr ⟨_, rfl, hold_ex okT (rs := [.cell 2 41]) rfl ?_⟩)⟩
    rotate_left
    · rw [hv] at hN
      simp only [Option.map_none] at hN
      rw [hN] at hX
      simp (maxSteps := 1000000) (disch := first | omega | (simp only [sizeAlloc, sizeDrew, sizeSet, sizePut] <;> omega) | fail) only [GS, TT_eq, TTl, Nat.reduceAdd, Nat.reduceMul, Nat.reduceSub, Nat.reduceDiv, Nat.reduceMod, Nat.reducePow, Nat.reduceEqDiff, ↓reduceIte, reduceCtorEq, Int.reduceToNat, Int.reduceAdd, Int.reduceSub, Int.reduceMul]
      exact h0 7 _ hX.symm ((hM0D.trans hME (by simp)).trans hMF (by simp))
    rw [hv] at hN
    simp only at hN
    have hMDF := hME.trans hMF (by simp)
    have hMWF := hMW.mod hMDF (by simp)
    have hlk := look_k v hMWF.at hCnt
    have hcl : ns.count v ≤ ns.length := List.count_le_length
    simp (maxSteps := 1000000) (disch := first | omega | (simp only [sizeAlloc, sizeDrew, sizeSet, sizePut] <;> omega) | fail) only [GS, TT_eq, TTl, Nat.reduceAdd, Nat.reduceMul, Nat.reduceSub, Nat.reduceDiv, Nat.reduceMod, Nat.reducePow, Nat.reduceEqDiff, ↓reduceIte, reduceCtorEq, Int.reduceToNat, Int.reduceAdd, Int.reduceSub, Int.reduceMul, hlk]
    by_cases hc0 : ns.count v = 0
    · refine hold_insertW (i := kV v) (v := .int .i64 ((ns.count v : Nat) + 1)) okT (.inr rfl) rfl rfl rfl rfl hMWF rfl hCnt.keys (by have := hCnt.find v; rw [if_pos hc0] at this; exact this) fun wG hMG hMm => hold_ops okT (rs := [.cell 2 41]) rfl ?_
      have hCn := hCnt.push hc0
      simp (maxSteps := 1000000) (disch := first | omega | (simp only [sizeAlloc, sizeDrew, sizeSet, sizePut] <;> omega) | fail) only [GS, TT_eq, TTl, Nat.reduceAdd, Nat.reduceMul, Nat.reduceSub, Nat.reduceDiv, Nat.reduceMod, Nat.reducePow, Nat.reduceEqDiff, ↓reduceIte, reduceCtorEq, Int.reduceToNat, Int.reduceAdd, Int.reduceSub, Int.reduceMul]
      refine ⟨⟨j + 1, _, ns ++ [v], rfl, by omega, by rw [List.length_append]; simp; omega, hMG, ?_, ?_, hMD.trans ((hMDF.mono (by simp)).trans hMm (fun y hy => .inl hy)) (fun y hy => .inl hy)⟩, by omega⟩
      · have e1 : ((ns.count v : Nat) : Int) + 1 = ((1 : Nat) : Int) := by omega
        first | exact hCn | (rw [e1]; exact hCn)
      · rw [hN]
        cases numsO (ps.drop (j + 1)) with
        | none => rfl
        | some q => simp
    · refine hold_updateW (ik := .i64) (n := (v : Nat)) (v := .int .i64 ((ns.count v : Nat) + 1)) okT rfl rfl rfl rfl rfl hMWF rfl hCnt.keys (by have := hCnt.find v; rw [if_neg hc0] at this; intro e; have e2 : mfind (kV v) E = none := e; rw [e2] at this; simp at this) fun i u wG hi hMG hMm => hold_ops okT (rs := [.cell 2 41]) rfl ?_
      have hCn := hCnt.upd (v := v) hi
      simp (maxSteps := 1000000) (disch := first | omega | (simp only [sizeAlloc, sizeDrew, sizeSet, sizePut] <;> omega) | fail) only [GS, TT_eq, TTl, Nat.reduceAdd, Nat.reduceMul, Nat.reduceSub, Nat.reduceDiv, Nat.reduceMod, Nat.reducePow, Nat.reduceEqDiff, ↓reduceIte, reduceCtorEq, Int.reduceToNat, Int.reduceAdd, Int.reduceSub, Int.reduceMul]
      refine ⟨⟨j + 1, _, ns ++ [v], rfl, by omega, by rw [List.length_append]; simp; omega, hMG, ?_, ?_, hMD.trans ((hMDF.mono (by simp)).trans hMm (fun y hy => .inl hy)) (fun y hy => .inl hy)⟩, by omega⟩
      · exact hCn
      · rw [hN]
        cases numsO (ps.drop (j + 1)) with
        | none => rfl
        | some q => simp
  have ej : j = ps.length := by omega
  subst ej
  rw [List.drop_length, numsO] at hN
  simp only [Option.map_some, List.append_nil] at hN
  rw [hN] at hX
  simp only at hX
  have hhD := hMD.get hhC (by simp; omega)
  have hbD := hMD.get hbC (by simp; omega)
  have f3 := cellMS f3 hMD (by simp; omega)
  have hoD := ownsRow_mod' hoC hMD (fun g hg => by have := hgmp g hg; simp; omega)
  clear hhC hbC hoC hpR hpblk hN hM0C
  simp (maxSteps := 1000000) (disch := first | omega | (simp only [sizeAlloc, sizeDrew, sizeSet, sizePut] <;> omega) | fail) only [GS, TT_eq, TTl, Nat.reduceAdd, Nat.reduceMul, Nat.reduceSub, Nat.reduceDiv, Nat.reduceMod, Nat.reducePow, Nat.reduceEqDiff, ↓reduceIte, reduceCtorEq, Int.reduceToNat, Int.reduceAdd, Int.reduceSub, Int.reduceMul]
  refine hold_rangeMap okT rfl rfl rfl hMW fun wH hIt hMH hsH => hold_ops okT (rs := [.cell 2 41]) rfl ?_
  have hM0H := hM0D.trans hMH (by simp)
  have hhH := hMH.get hhD (by simp)
  have hbH := hMH.get hbD (by simp)
  have f3 := cellM f3 hMH
  have hoH := ownsRow_mod hoD hMH (by simp)
  have hmpD := hMW.lt
  have hnD := (Array.getElem?_eq_some_iff.1 hhD).1
  have hbDl := (Array.getElem?_eq_some_iff.1 hbD).1
  have hs0D := hM0D.size
  generalize hit : wD.heap.size = it at *
  clear hhD hbD hoD hM0D hMD hMH
  simp (maxSteps := 1000000) (disch := first | omega | (simp only [sizeAlloc, sizeDrew, sizeSet, sizePut] <;> omega) | fail) only [GS, TT_eq, TTl, Nat.reduceAdd, Nat.reduceMul, Nat.reduceSub, Nat.reduceDiv, Nat.reduceMod, Nat.reducePow, Nat.reduceEqDiff, ↓reduceIte, reduceCtorEq, Int.reduceToNat, Int.reduceAdd, Int.reduceSub, Int.reduceMul]
  refine hold_loop okT (rs := [.cell 2 41]) rfl [] [10, 68, 69, 70, 71, 72, 73, 74] (fun vs w' => ∃ left, vs = [] ∧ ItAt w' it mp left ∧ (∀ e ∈ left, e ∈ E) ∧ (∀ e ∈ E, e ∈ left ∨ e.2 = kV 1) ∧ Mod [it] wH w') (fun vs w' => itLeft w' it) (by kernel_rfl) ⟨_, rfl, hIt, fun e he => he, fun e he => .inl he, Mod.refl _ _⟩ ?_
  rintro vs wI J2 ⟨left, rfl, hIt7, hin, hfit, hMI⟩
  have hM0I : Mod [] w wI := hM0H.trans hMI (fun y hy => .inr (by simp at hy; omega))
  simp (maxSteps := 1000000) (disch := first | omega | (simp only [sizeAlloc, sizeDrew, sizeSet, sizePut] <;> omega) | fail) only [GS, TT_eq, TTl, Nat.reduceAdd, Nat.reduceMul, Nat.reduceSub, Nat.reduceDiv, Nat.reduceMod, Nat.reducePow, Nat.reduceEqDiff, ↓reduceIte, reduceCtorEq, Int.reduceToNat, Int.reduceAdd, Int.reduceSub, Int.reduceMul]
  refine hold_nextMap rfl rfl hIt7 (fun hz => hold_ops okT (rs := [.cell 2 41]) rfl ?_) (fun key val la lb wK hleft hIt8 hEnt hMK => hold_ops okT (rs := [.cell 2 41]) rfl ?_)
  rotate_left
  · obtain ⟨v, ev, hv0⟩ := hCnt.ent (key, val) (hin _ (by rw [hleft]; simp))
    rw [Prod.mk.injEq] at ev
    obtain ⟨rfl, rfl⟩ := ev
    simp (maxSteps := 1000000) (disch := first | omega | (simp only [sizeAlloc, sizeDrew, sizeSet, sizePut] <;> omega) | fail) only [GS, TT_eq, TTl, Nat.reduceAdd, Nat.reduceMul, Nat.reduceSub, Nat.reduceDiv, Nat.reduceMod, Nat.reducePow, Nat.reduceEqDiff, ↓reduceIte, reduceCtorEq, Int.reduceToNat, Int.reduceAdd, Int.reduceSub, Int.reduceMul]
    refine hold_entryMap rfl rfl hEnt (hold_ops okT (rs := [.cell 2 41]) rfl ?_)
    have hM0K : Mod [] w wK := hM0I.trans hMK (fun y hy => .inr (by simp at hy; omega))
    unfold kV
    by_cases hc1 : ((ns.count v : Nat) : Int) = 1
    · simp (maxSteps := 1000000) (disch := first | omega | (simp only [sizeAlloc, sizeDrew, sizeSet, sizePut] <;> omega) | fail) only [GS, TT_eq, TTl, Nat.reduceAdd, Nat.reduceMul, Nat.reduceSub, Nat.reduceDiv, Nat.reduceMod, Nat.reducePow, Nat.reduceEqDiff, ↓reduceIte, reduceCtorEq, Int.reduceToNat, Int.reduceAdd, Int.reduceSub, Int.reduceMul, hc1]
      refine ⟨fok113, eMust_cps _ 260 _ _ (fun _ => .inl ⟨_, rfl, hold_ops okT (rs := [.cell 2 41]) rfl ?_⟩) (fun h => absurd h (by simp))⟩
      simp (maxSteps := 1000000) (disch := first | omega | (simp only [sizeAlloc, sizeDrew, sizeSet, sizePut] <;> omega) | fail) only [GS, TT_eq, TTl, Nat.reduceAdd, Nat.reduceMul, Nat.reduceSub, Nat.reduceDiv, Nat.reduceMod, Nat.reducePow, Nat.reduceEqDiff, ↓reduceIte, reduceCtorEq, Int.reduceToNat, Int.reduceAdd, Int.reduceSub, Int.reduceMul]
      refine ⟨⟨la ++ lb, hIt8, fun e he => hin e ?_, fun e he => ?_, hMI.trans hMK (fun y hy => .inl hy)⟩, ?_⟩
      · rw [hleft]
        rw [List.mem_append] at he
        rw [List.mem_append, List.mem_cons]
        rcases he with he | he
        · exact .inl he
        · exact .inr (.inr he)
      · rcases hfit e he with he | he
        · rw [hleft, List.mem_append, List.mem_cons] at he
          rcases he with he | he | he
          · exact .inl (List.mem_append.2 (.inl he))
          · subst he
            refine .inr ?_
            have : ns.count v = 1 := by omega
            simp only
            rw [this]
            rfl
          · exact .inl (List.mem_append.2 (.inr he))
        · exact .inr he
      · rw [hIt8.count, hIt7.count, hleft, List.length_append, List.length_append, List.length_cons]
        omega
    · rw [if_neg (fun h => hc1 (by have := nodup_count h v hv0; omega))] at hX
      simp (maxSteps := 1000000) (disch := first | omega | (simp only [sizeAlloc, sizeDrew, sizeSet, sizePut] <;> omega) | fail) only [GS, TT_eq, TTl, Nat.reduceAdd, Nat.reduceMul, Nat.reduceSub, Nat.reduceDiv, Nat.reduceMod, Nat.reducePow, Nat.reduceEqDiff, ↓reduceIte, reduceCtorEq, Int.reduceToNat, Int.reduceAdd, Int.reduceSub, Int.reduceMul, hc1]
      refine ⟨fok113, eMust_cps _ 260 _ _ (fun h => absurd h (by simp)) (fun _ => .inr ⟨_, rfl, hold_ex okT (rs := [.cell 2 41]) rfl ?_⟩)⟩
      simp (maxSteps := 1000000) (disch := first | omega | (simp only [sizeAlloc, sizeDrew, sizeSet, sizePut] <;> omega) | fail) only [GS, TT_eq, TTl, Nat.reduceAdd, Nat.reduceMul, Nat.reduceSub, Nat.reduceDiv, Nat.reduceMod, Nat.reducePow, Nat.reduceEqDiff, ↓reduceIte, reduceCtorEq, Int.reduceToNat, Int.reduceAdd, Int.reduceSub, Int.reduceMul]
      exact h0 260 _ hX.symm hM0K
  subst hz
  have hnd : ns.Nodup := count_nodup fun v hv => by
    rcases hfit _ (hCnt.all v hv) with h | h
    · simp at h
    · exact kV_inj h
  rw [if_pos hnd] at hX
  unfold decM at hX
  have hhI := hMI.get hhH (by simp; omega)
  have hbI := hMI.get hbH (by simp; omega)
  have f3 := cellMS f3 hMI (by simp; omega)
  have hoI := ownsRow_mod' hoH hMI (fun g hg => by have := hgmp g hg; simp; omega)
  clear hhH hbH hoH hMI hM0H hIt7 hfit hin hIt hCnt
  simp (maxSteps := 1000000) (disch := first | omega | (simp only [sizeAlloc, sizeDrew, sizeSet, sizePut] <;> omega) | fail) only [GS, TT_eq, TTl, Nat.reduceAdd, Nat.reduceMul, Nat.reduceSub, Nat.reduceDiv, Nat.reduceMod, Nat.reducePow, Nat.reduceEqDiff, ↓reduceIte, reduceCtorEq, Int.reduceToNat, Int.reduceAdd, Int.reduceSub, Int.reduceMul]
  refine hold_draw okT (rs := [.cell 2 41]) rfl [0, 0, 2, 6, 15, 31, 63, 63, 127, 383, 1023] [0, 1, 2, 3, 4, 5, 6, 7, 8, 9, 10] (by kernel_rfl) (by kernel_rfl) ?_
  have hhL : (wI.drewN 1).heap[n]? = _ := hhI
  have hbL : (wI.drewN 1).heap[b4]? = _ := hbI
  have f3 : (wI.drewN 1).cell? ⟨b1, o1 + 3, none⟩ = some (.string ⟨t3.toArray⟩) := f3
  have hM0L := hM0I.drewN 1
  have hoL := ownsRow_mod hoI (Mod.drewN 1 (Mod.refl [] wI)) (by simp)
  generalize wI.drewN 1 = wL at *
  have cL := fun o => cellOf (o := o) hbL
  have hag : ∀ w' : World, Mod [] wL w' → aggO (consO (w'.cell? ⟨b4, 0, none⟩) (consO (w'.cell? ⟨b4, 1, none⟩) (consO (w'.cell? ⟨b4, 2, none⟩) (some [])))) = some (.agg #[.int .i64 x1, .int .i64 x2, .int .i64 x3]) := by
    intro w' hm
    rw [cellM (show wL.cell? ⟨b4, 0, none⟩ = some (.int .i64 x1) from cL 0) hm, cellM (show wL.cell? ⟨b4, 1, none⟩ = some (.int .i64 x2) from cL 1) hm, cellM (show wL.cell? ⟨b4, 2, none⟩ = some (.int .i64 x3) from cL 2) hm]
    rfl
  simp (maxSteps := 1000000) (disch := first | omega | (simp only [sizeAlloc, sizeDrew, sizeSet, sizePut] <;> omega) | fail) only [GS, TT_eq, TTl, Nat.reduceAdd, Nat.reduceMul, Nat.reduceSub, Nat.reduceDiv, Nat.reduceMod, Nat.reducePow, Nat.reduceEqDiff, ↓reduceIte, reduceCtorEq, Int.reduceToNat, Int.reduceAdd, Int.reduceSub, Int.reduceMul, cL, f3]
  have hsL := hM0L.size
  have hnL := (Array.getElem?_eq_some_iff.1 hhL).1
  refine ⟨fok126, hMM _ _ (fun mbs sm wM hmb hown hMM2 => .inl ⟨_, rfl, ?_⟩) (fun hmb wM hMM2 => .inl ⟨_, rfl, ?_⟩)⟩
  rotate_left
  · first | refine ⟨(by repeat' (first | exact hag _ hMM2 | exact cellM f3 hMM2 | apply And.intro)), hold_dops okT (rs := [.cell 2 41]) rfl ?_⟩ | refine hold_dops okT (rs := [.cell 2 41]) rfl ?_
    rw [hmb] at hX
    have hhM := hMM2.get hhL (by simp)
    have cM := fun o => cellOf (o := o) hhM
    have xM := fun o => frozenOf (o := o) hhM
    simp (maxSteps := 1000000) (disch := first | omega | (simp only [sizeAlloc, sizeDrew, sizeSet, sizePut] <;> omega) | fail) only [GS, TT_eq, TTl, Nat.reduceAdd, Nat.reduceMul, Nat.reduceSub, Nat.reduceDiv, Nat.reduceMod, Nat.reducePow, Nat.reduceEqDiff, ↓reduceIte, reduceCtorEq, Int.reduceToNat, Int.reduceAdd, Int.reduceSub, Int.reduceMul, cM, xM]
    refine ⟨fok113, eMust_cps _ 7 _ _ (fun h => absurd h (by simp)) (fun _ => .inr ⟨_, rfl, hold_ex okT (rs := [.cell 2 41]) rfl ?_⟩)⟩
    simp (maxSteps := 1000000) (disch := first | omega | (simp only [sizeAlloc, sizeDrew, sizeSet, sizePut] <;> omega) | fail) only [GS, TT_eq, TTl, Nat.reduceAdd, Nat.reduceMul, Nat.reduceSub, Nat.reduceDiv, Nat.reduceMod, Nat.reducePow, Nat.reduceEqDiff, ↓reduceIte, reduceCtorEq, Int.reduceToNat, Int.reduceAdd, Int.reduceSub, Int.reduceMul]
    exact h0 7 _ hX.symm ((hM0L.trans hMM2 (by simp)).set (p := ⟨n, 4, none⟩) (.inr hge) _)
  first | refine ⟨(by repeat' (first | exact hag _ hMM2 | exact cellM f3 hMM2 | apply And.intro)), hold_dops okT (rs := [.cell 2 41]) rfl ?_⟩ | refine hold_dops okT (rs := [.cell 2 41]) rfl ?_
  rw [hmb] at hX
  simp only at hX
  have hhM := hMM2.get hhL (by simp)
  have cM := fun o => cellOf (o := o) hhM
  have xM := fun o => frozenOf (o := o) hhM
  have osm := ownsRow_one hown
  have hM0M := hM0L.trans hMM2 (by simp)
  have hoM := ownsRow_mod hoL hMM2 (by simp)
  have otv := ownsRow_one hoM
  simp (maxSteps := 1000000) (disch := first | omega | (simp only [sizeAlloc, sizeDrew, sizeSet, sizePut] <;> omega) | fail) only [GS, TT_eq, TTl, Nat.reduceAdd, Nat.reduceMul, Nat.reduceSub, Nat.reduceDiv, Nat.reduceMod, Nat.reducePow, Nat.reduceEqDiff, ↓reduceIte, reduceCtorEq, Int.reduceToNat, Int.reduceAdd, Int.reduceSub, Int.reduceMul, cM, xM, cellsL_one osm, osm]
  have hhP : (wM.setCell ⟨n, 4, none⟩ sm).heap[n]? = some (.cells #[.int .i64 x1, .int .i64 x2, .int .i64 x3, .int .i64 (a : Nat), sm, tv] 41 (0, 0)) := by rw [heapSet hhM]; rfl
  have hMp : Mod [n] wM (wM.setCell ⟨n, 4, none⟩ sm) := (Mod.refl [n] wM).set (p := ⟨n, 4, none⟩) (.inl (by simp)) sm
  have hM0P : Mod [] w (wM.setCell ⟨n, 4, none⟩ sm) := hM0M.set (p := ⟨n, 4, none⟩) (.inr hge) sm
  have hoP := ownsRow_mod hoM hMp (by simp; omega)
  have howP := ownsRow_mod hown hMp (by simp; omega)
  revert hhP hMp hM0P hoP howP
  generalize wM.setCell ⟨n, 4, none⟩ sm = wP
  intro hhP hMp hM0P hoP howP
  have cP := fun o => cellOf (o := o) hhP
  obtain ⟨eT, -⟩ := of_numT ha
  obtain ⟨-, haL⟩ := of_numT ha
  have hmB := (unmb_back hmb).2
  have hmB' := hmB
  unfold mbB at hmB'
  rw [Bool.and_eq_true] at hmB'
  have hml := of_decide_eq_true hmB'.2
  have hin2 : ∀ w', Mod [] wP w' → RcpIn w' ⟨(x1, x2, x3), (a : Int), mbs, tags⟩ sm tv := fun w' hM => RcpIn.mod ⟨⟨by simp only; omega, by simp only; omega⟩, by simp only; omega, fun x hx => by have := (check0 (mbs_el hmB'.1 x hx).2.2).2.2.1; unfold maxLen; omega, Rd.own howP, by simp only; omega, fun x hx => by have := (check0 (htc x hx)).2.2.1; unfold maxLen; omega, Rd.own hoP⟩ hM
  have hCk := fun w' hM => eCheck_cps ⟨(x1, x2, x3), (a : Int), mbs, tags⟩ sm tv w' (hin2 w' hM)
  unfold rcV rcC at hCk
  simp only at hCk
  refine ⟨fok66, hCk _ (Mod.refl _ _) _ fun wQ hMQ => .inl ⟨_, rfl, hold_ops okT (rs := [.cell 2 41]) rfl ?_⟩⟩
  have hhQ := hMQ.get hhP (by simp)
  have hM0Q := hM0P.trans hMQ (by simp)
  have hoQ := ownsRow_mod hoP hMQ (by simp)
  have howQ := ownsRow_mod howP hMQ (by simp)
  have hsP := hM0P.size
  have hsQ := hMQ.size
  have hnQ := (Array.getElem?_eq_some_iff.1 hhQ).1
  have cQ := fun o => cellOf (o := o) hhQ
  have xQ := fun o => frozenOf (o := o) hhQ
  cases hmy : mayR ⟨(x1, x2, x3), (a : Int), mbs, tags⟩
  · rw [hmy] at hX
    simp only [Bool.false_eq_true, if_false] at hX ⊢
    simp (maxSteps := 1000000) (disch := first | omega | (simp only [sizeAlloc, sizeDrew, sizeSet, sizePut] <;> omega) | fail) only [GS, TT_eq, TTl, Nat.reduceAdd, Nat.reduceMul, Nat.reduceSub, Nat.reduceDiv, Nat.reduceMod, Nat.reducePow, Nat.reduceEqDiff, ↓reduceIte, reduceCtorEq, Int.reduceToNat, Int.reduceAdd, Int.reduceSub, Int.reduceMul]
    refine ⟨fok113, eMust_cps _ 7 _ _ (fun h => absurd h (by simp)) (fun _ => .inr ⟨_, rfl, hold_ex okT (rs := [.cell 2 41]) rfl ?_⟩)⟩
    simp (maxSteps := 1000000) (disch := first | omega | (simp only [sizeAlloc, sizeDrew, sizeSet, sizePut] <;> omega) | fail) only [GS, TT_eq, TTl, Nat.reduceAdd, Nat.reduceMul, Nat.reduceSub, Nat.reduceDiv, Nat.reduceMod, Nat.reducePow, Nat.reduceEqDiff, ↓reduceIte, reduceCtorEq, Int.reduceToNat, Int.reduceAdd, Int.reduceSub, Int.reduceMul]
    exact h0 7 _ hX.symm hM0Q
  rw [hmy] at hX
  simp only [if_true] at hX ⊢
  simp (maxSteps := 1000000) (disch := first | omega | (simp only [sizeAlloc, sizeDrew, sizeSet, sizePut] <;> omega) | fail) only [GS, TT_eq, TTl, Nat.reduceAdd, Nat.reduceMul, Nat.reduceSub, Nat.reduceDiv, Nat.reduceMod, Nat.reducePow, Nat.reduceEqDiff, ↓reduceIte, reduceCtorEq, Int.reduceToNat, Int.reduceAdd, Int.reduceSub, Int.reduceMul]
  refine ⟨fok113, eMust_cps _ 7 _ _ (fun _ => .inl ⟨_, rfl, hold_ops okT (rs := [.cell 2 41]) rfl ?_⟩) (fun h => absurd h (by simp))⟩
  have osQ := ownsRow_one howQ
  have otQ := ownsRow_one hoQ
  simp (maxSteps := 1000000) (disch := first | omega | (simp only [sizeAlloc, sizeDrew, sizeSet, sizePut] <;> omega) | fail) only [GS, TT_eq, TTl, Nat.reduceAdd, Nat.reduceMul, Nat.reduceSub, Nat.reduceDiv, Nat.reduceMod, Nat.reducePow, Nat.reduceEqDiff, ↓reduceIte, reduceCtorEq, Int.reduceToNat, Int.reduceAdd, Int.reduceSub, Int.reduceMul, cQ, xQ, cellsL_one osQ, osQ, cellsL_one otQ, otQ]
  have hhE : ((((((wQ.setCell ⟨n, 0, none⟩ (.int .i64 x1)).setCell ⟨n, 1, none⟩ (.int .i64 x2)).setCell ⟨n, 2, none⟩ (.int .i64 x3)).setCell ⟨n, 3, none⟩ (.int .i64 (a : Nat))).setCell ⟨n, 4, none⟩ sm).setCell ⟨n, 5, none⟩ tv).heap[n]? = some (.cells #[.int .i64 x1, .int .i64 x2, .int .i64 x3, .int .i64 (a : Nat), sm, tv] 41 (0, 0)) := st6 hhQ
  have hME : Mod [] w ((((((wQ.setCell ⟨n, 0, none⟩ (.int .i64 x1)).setCell ⟨n, 1, none⟩ (.int .i64 x2)).setCell ⟨n, 2, none⟩ (.int .i64 x3)).setCell ⟨n, 3, none⟩ (.int .i64 (a : Nat))).setCell ⟨n, 4, none⟩ sm).setCell ⟨n, 5, none⟩ tv) := ((((((hM0Q.set (p := ⟨n, 0, none⟩) (.inr hge) (.int .i64 x1)).set (p := ⟨n, 1, none⟩) (.inr hge) (.int .i64 x2)).set (p := ⟨n, 2, none⟩) (.inr hge) (.int .i64 x3)).set (p := ⟨n, 3, none⟩) (.inr hge) (.int .i64 (a : Nat))).set (p := ⟨n, 4, none⟩) (.inr hge) sm).set (p := ⟨n, 5, none⟩) (.inr hge) tv)
  have hMe : Mod [n] wQ ((((((wQ.setCell ⟨n, 0, none⟩ (.int .i64 x1)).setCell ⟨n, 1, none⟩ (.int .i64 x2)).setCell ⟨n, 2, none⟩ (.int .i64 x3)).setCell ⟨n, 3, none⟩ (.int .i64 (a : Nat))).setCell ⟨n, 4, none⟩ sm).setCell ⟨n, 5, none⟩ tv) := (((((((Mod.refl [n] wQ).set (p := ⟨n, 0, none⟩) (.inl (by simp)) (.int .i64 x1)).set (p := ⟨n, 1, none⟩) (.inl (by simp)) (.int .i64 x2)).set (p := ⟨n, 2, none⟩) (.inl (by simp)) (.int .i64 x3)).set (p := ⟨n, 3, none⟩) (.inl (by simp)) (.int .i64 (a : Nat))).set (p := ⟨n, 4, none⟩) (.inl (by simp)) sm).set (p := ⟨n, 5, none⟩) (.inl (by simp)) tv)
  have hoE := ownsRow_base (base' := n) (ownsRow_mod hoQ hMe (by simp; omega)) (by omega)
  have howE := ownsRow_base (base' := n) (ownsRow_mod howQ hMe (by simp; omega)) (by omega)
  revert hhE hME hMe hoE howE
  generalize ((((((wQ.setCell ⟨n, 0, none⟩ (.int .i64 x1)).setCell ⟨n, 1, none⟩ (.int .i64 x2)).setCell ⟨n, 2, none⟩ (.int .i64 x3)).setCell ⟨n, 3, none⟩ (.int .i64 (a : Nat))).setCell ⟨n, 4, none⟩ sm).setCell ⟨n, 5, none⟩ tv) = wE2
  intro hhE hME hMe hoE howE
  have cE := fun o => cellOf (o := o) hhE
  simp (maxSteps := 1000000) (disch := first | omega | (simp only [sizeAlloc, sizeDrew, sizeSet, sizePut] <;> omega) | fail) only [GS, TT_eq, TTl, Nat.reduceAdd, Nat.reduceMul, Nat.reduceSub, Nat.reduceDiv, Nat.reduceMod, Nat.reducePow, Nat.reduceEqDiff, ↓reduceIte, reduceCtorEq, Int.reduceToNat, Int.reduceAdd, Int.reduceSub, Int.reduceMul, loadW]
  exact ⟨_, cE 0, _, cE 1, _, cE 2, _, cE 3, _, cE 4, _, cE 5, h1 _ sm tv _ hX.symm howE hoE hME⟩
end Go.Proofs.YtcikecociiebkaaGreatDoor
set_option linter.unusedSimpArgs false
set_option linter.unusedVariables false
set_option maxRecDepth 20000
namespace Go.Proofs.YtcikecociiebkaaGreatDoor
open Go Go.Wk Go.RowKit
attribute [local irreducible] go Hold
open Go.Lib
theorem rcpIn_of {w : World} {r : Rcp} {sm st : Value} (hm : mayR r = true) (h1 : Rd w 2 sm r.mbs.length (r.mbs.flatMap mbC)) (h2 : Rd w 1 st r.tags.length (r.tags.map strV)) : RcpIn w r sm st := by
  obtain ⟨-, ho, hB, hl, hal⟩ := may_is hm
  unfold mbB at hB
  rw [Bool.and_eq_true] at hB
  have h6 := (of_decide_eq_true hB.2).2
  refine ⟨⟨by omega, by omega⟩, by omega, fun x hx => ?_, h1, by omega, fun x hx => ?_, h2⟩
  · have := (check0 (mbs_el hB.1 x hx).2.2).2.2.1; unfold maxLen; omega
  · unfold allS at hal
    have := (check0 (of_decide_eq_true (List.all_eq_true.1 hal x hx))).2.2.1
    unfold maxLen; omega
theorem decM_ok {x : Tx} {a : Nat} {tags : List (List UInt8)} {t3 : List UInt8} {r : Rcp} (h : decM x a tags t3 = .ok r) : ∃ mb, unmbS x.1 t3 = some mb ∧ mayR r = true ∧ r = ⟨x, (a : Int), mb, tags⟩ := by
  unfold decM at h
  split at h
  · simp at h
  · rename_i mb hmb
    split at h
    · rename_i hm
      simp only [Except.ok.injEq] at h
      subst h
      exact ⟨mb, hmb, hm, rfl⟩
    · simp at h
theorem decN_ok {x : Tx} {a : Nat} {tags : List (List UInt8)} {t3 : List UInt8} {r : Rcp} (h : decN x a tags t3 = .ok r) : decM x a tags t3 = .ok r := by
  unfold decN at h
  split at h
  · simp at h
  · split at h
    · simp at h
    · split at h
      · exact h
      · simp at h
theorem decL_ok {t0 t1 t2 t3 t4 : List UInt8} {r : Rcp} (h : decL t0 t1 t2 t3 t4 = .ok r) : ∃ x a tags, t0 = (dataS RW).1 ∧ untxO t1 = some x ∧ numT t2 = some a ∧ rowR t4 (-1) = some tags ∧ decM x a tags t3 = .ok r := by
  unfold decL at h
  split at h
  · rename_i h0
    split at h
    · simp at h
    · rename_i x hx
      split at h
      · simp at h
      · rename_i a ha
        split at h
        · simp at h
        · rename_i tags htg
          exact ⟨x, a, tags, h0, hx, ha, htg, decN_ok h⟩
  · simp at h
theorem decRc_ok {S : List UInt8} {r : Rcp} (h : decRc S = .ok r) : ∃ t0 t1 t2 t3 t4 x a, rowR S 5 = some [t0, t1, t2, t3, t4] ∧ t0 = (dataS RW).1 ∧ untxO t1 = some x ∧ numT t2 = some a ∧ rowR t4 (-1) = some r.tags ∧ unmbS x.1 t3 = some r.mbs ∧ mayR r = true ∧ r = ⟨x, (a : Int), r.mbs, r.tags⟩ := by
  unfold decRc at h
  split at h
  · simp at h
  · split at h
    · simp at h
    · rename_i l hl
      obtain ⟨-, -, h5, -, -⟩ := rowR_is hl
      obtain ⟨t0, t1, t2, t3, t4, rfl⟩ := len5 (show l.length = 5 by omega)
      simp only [List.getD_cons_zero, List.getD_cons_succ] at h
      obtain ⟨x, a, tags, h0, hx, ha, htg, hM⟩ := decL_ok h
      obtain ⟨mb, hmb, hm, rfl⟩ := decM_ok hM
      exact ⟨t0, t1, t2, t3, t4, x, a, hl, h0, hx, ha, htg, hmb, hm, rfl⟩
theorem decRc_err {S : List UInt8} {c : Int} (h : decRc S = .error c) : (c = 5 ∨ c = 7 ∨ c = 260) ∧ (16384 < S.length → c = 5) := by
  unfold decRc at h
  split at h
  · rename_i h1
    simp only [Except.error.injEq] at h
    exact ⟨.inl h.symm, fun _ => h.symm⟩
  · rename_i h1
    refine ⟨?_, fun h2 => absurd h2 h1⟩
    split at h
    · simp only [Except.error.injEq] at h; omega
    · unfold decL at h
      split at h
      · split at h
        · simp only [Except.error.injEq] at h; omega
        · split at h
          · simp only [Except.error.injEq] at h; omega
          · split at h
            · simp only [Except.error.injEq] at h; omega
            · unfold decN at h
              split at h
              · simp only [Except.error.injEq] at h; omega
              · split at h
                · simp only [Except.error.injEq] at h; omega
                · split at h
                  · unfold decM at h
                    split at h
                    · simp only [Except.error.injEq] at h; omega
                    · split at h
                      · simp at h
                      · simp only [Except.error.injEq] at h; omega
                  · simp only [Except.error.injEq] at h; omega
      · simp only [Except.error.injEq] at h; omega
set_option maxRecDepth 20000 in
set_option maxHeartbeats 8000000 in
theorem eDec1_cps (S : List UInt8) (hS : S.length ≤ maxLen) (b p : Nat) (w : World) (hb : w.heap[b]? = some (.cells #[.string ⟨S.toArray⟩] 9 (0, 0))) (hp : w.heap[p]? = some (.cells #[.int .i64 0, .int .i64 0, .int .i64 0, .int .i64 0, .slice none 0 0, .slice none 0 0] 41 (0, 0))) (R : Ending → World → Prop)
    (h1 : ∀ r sm st w', decRc S = .ok r → w'.heap[p]? = some (.cells (rcC r sm st).toArray 41 (0, 0)) → w'.ownsRow w.heap.size 48 2 sm r.mbs.length (r.mbs.flatMap mbC) → w'.ownsRow w.heap.size 9 1 st r.tags.length (r.tags.map strV) → Mod [p] w w' → R (.returned (.tuple #[])) w') (h0 : ∀ c w', decRc S = .error c → Mod [] w w' → R (.panicked (rwV c)) w') :
    Calls Tryz.prog 79 #[.pointer (some ⟨b, 0, none⟩), .pointer (some ⟨p, 0, none⟩)] w R := by
  refine calls_go 4000 okT Tryz.func79 rfl (rs := []) rfl Tryz.ntmps79 (args := [.pointer (some ⟨b, 0, none⟩), .pointer (some ⟨p, 0, none⟩)]) ?_
  have cb := fun o => cellOf (o := o) hb
  have hpl := (Array.getElem?_eq_some_iff.1 hp).1
  simp (maxSteps := 1000000) (disch := first | omega | (simp only [sizeAlloc, sizeDrew, sizeSet, sizePut] <;> omega) | fail) only [GS, TT_eq, TTl, Nat.reduceAdd, Nat.reduceMul, Nat.reduceSub, Nat.reduceDiv, Nat.reduceMod, Nat.reducePow, Nat.reduceEqDiff, ↓reduceIte, reduceCtorEq, Int.reduceToNat, Int.reduceAdd, Int.reduceSub, Int.reduceMul, cb]
  refine ⟨fok80, eDec_cps S hS _ _ (fun r sm st w1 hr how hot hM => .inl ⟨_, rfl, hold_ops okT (rs := []) rfl ?_⟩) (fun c w1 hr hM => .inr ⟨_, rfl, hold_ex okT (rs := []) rfl ?_⟩)⟩
  · obtain ⟨⟨xa, xb, xc⟩, xaud, xmbs, xtags⟩ := r
    simp only at how hot
    have hp1 := hM.get hp (by simp)
    have cp := fun o => cellOf (o := o) hp1
    have xp := fun o => frozenOf (o := o) hp1
    have hsm := ownsRow_one how
    have hst := ownsRow_one hot
    unfold rcV rcC
    simp only
    simp (maxSteps := 1000000) (disch := first | omega | (simp only [sizeAlloc, sizeDrew, sizeSet, sizePut] <;> omega) | fail) only [GS, TT_eq, TTl, Nat.reduceAdd, Nat.reduceMul, Nat.reduceSub, Nat.reduceDiv, Nat.reduceMod, Nat.reducePow, Nat.reduceEqDiff, ↓reduceIte, reduceCtorEq, Int.reduceToNat, Int.reduceAdd, Int.reduceSub, Int.reduceMul, cp, xp, cellsL_one hsm, hsm, cellsL_one hst, hst]
    exact h1 _ sm st _ hr (st6 hp1) (ownsRow_mod (S := [p]) how ((((((((Mod.refl [p] w1).set (p := ⟨p, 0, none⟩) (.inl (by simp)) (.int .i64 xa)).set (p := ⟨p, 1, none⟩) (.inl (by simp)) (.int .i64 xb)).set (p := ⟨p, 2, none⟩) (.inl (by simp)) (.int .i64 xc)).set (p := ⟨p, 3, none⟩) (.inl (by simp)) (.int .i64 xaud)).set (p := ⟨p, 4, none⟩) (.inl (by simp)) sm).set (p := ⟨p, 5, none⟩) (.inl (by simp)) st)) (by simp; omega)) (ownsRow_mod (S := [p]) hot ((((((((Mod.refl [p] w1).set (p := ⟨p, 0, none⟩) (.inl (by simp)) (.int .i64 xa)).set (p := ⟨p, 1, none⟩) (.inl (by simp)) (.int .i64 xb)).set (p := ⟨p, 2, none⟩) (.inl (by simp)) (.int .i64 xc)).set (p := ⟨p, 3, none⟩) (.inl (by simp)) (.int .i64 xaud)).set (p := ⟨p, 4, none⟩) (.inl (by simp)) sm).set (p := ⟨p, 5, none⟩) (.inl (by simp)) st)) (by simp; omega)) ((((((((hM.mono (by simp)).set (p := ⟨p, 0, none⟩) (.inl (by simp)) (.int .i64 xa)).set (p := ⟨p, 1, none⟩) (.inl (by simp)) (.int .i64 xb)).set (p := ⟨p, 2, none⟩) (.inl (by simp)) (.int .i64 xc)).set (p := ⟨p, 3, none⟩) (.inl (by simp)) (.int .i64 xaud)).set (p := ⟨p, 4, none⟩) (.inl (by simp)) sm).set (p := ⟨p, 5, none⟩) (.inl (by simp)) st))
  · simp (maxSteps := 1000000) (disch := first | omega | (simp only [sizeAlloc, sizeDrew, sizeSet, sizePut] <;> omega) | fail) only [GS, TT_eq, TTl, Nat.reduceAdd, Nat.reduceMul, Nat.reduceSub, Nat.reduceDiv, Nat.reduceMod, Nat.reducePow, Nat.reduceEqDiff, ↓reduceIte, reduceCtorEq, Int.reduceToNat, Int.reduceAdd, Int.reduceSub, Int.reduceMul]
    exact h0 c _ hr hM
def rcZ : Value := .agg #[.int .i64 0, .int .i64 0, .int .i64 0, .int .i64 0, .slice none 0 0, .slice none 0 0]
set_option maxRecDepth 20000 in
set_option maxHeartbeats 8000000 in
theorem eDecode_cps (S : List UInt8) (hS : S.length ≤ maxLen) (w : World) (R : Ending → World → Prop)
    (h1 : ∀ r sm st w', decRc S = .ok r → w'.ownsRow w.heap.size 48 2 sm r.mbs.length (r.mbs.flatMap mbC) → w'.ownsRow w.heap.size 9 1 st r.tags.length (r.tags.map strV) → Mod [] w w' → R (.returned (.tuple #[rcV r sm st, .int .i64 0])) w') (h0 : ∀ c w', decRc S = .error c → Mod [] w w' → R (.returned (.tuple #[rcZ, .int .i64 c])) w') :
    Calls Tryz.prog 37 #[.string ⟨S.toArray⟩] w R := by
  refine calls_go 4000 okT Tryz.func37 rfl (rs := [.cell 2 41, .tmp 3]) rfl Tryz.ntmps37 (args := [.string ⟨S.toArray⟩]) ?_
  simp (maxSteps := 1000000) (disch := first | omega | (simp only [sizeAlloc, sizeDrew, sizeSet, sizePut] <;> omega) | fail) only [GS, TT_eq, TTl, Nat.reduceAdd, Nat.reduceMul, Nat.reduceSub, Nat.reduceDiv, Nat.reduceMod, Nat.reducePow, Nat.reduceEqDiff, ↓reduceIte, reduceCtorEq, Int.reduceToNat, Int.reduceAdd, Int.reduceSub, Int.reduceMul]
  have hb := heapAlloc (o' := .cells #[.int .i64 0, .int .i64 0, .int .i64 0, .int .i64 0, .slice none 0 0, .slice none 0 0] 41) (heapNew (w := w) (o := .cells #[.string ⟨S.toArray⟩] 9))
  have hp := heapNew (w := w.alloc (.cells #[.string ⟨S.toArray⟩] 9)) (o := .cells #[.int .i64 0, .int .i64 0, .int .i64 0, .int .i64 0, .slice none 0 0, .slice none 0 0] 41)
  have hM0 := ((Mod.refl [] w).alloc (.cells #[.string ⟨S.toArray⟩] 9)).alloc (.cells #[.int .i64 0, .int .i64 0, .int .i64 0, .int .i64 0, .slice none 0 0, .slice none 0 0] 41)
  rw [sizeAlloc] at hp
  generalize hW : (w.alloc (.cells #[.string ⟨S.toArray⟩] 9)).alloc (.cells #[.int .i64 0, .int .i64 0, .int .i64 0, .int .i64 0, .slice none 0 0, .slice none 0 0] 41) = W at hb hp hM0 ⊢
  generalize hn : w.heap.size = n at *
  have hpl := (Array.getElem?_eq_some_iff.1 hp).1
  have hge : w.heap.size ≤ n + 1 := by omega
  have hb2 := heapAlloc (o' := .cells #[.int .i64 0] 26) hb
  have hp2 := heapAlloc (o' := .cells #[.int .i64 0] 26) hp
  have hq2 := heapNew (w := W) (o := .cells #[.int .i64 0] 26)
  have hM2 := (Mod.refl [] W).alloc (.cells #[.int .i64 0] 26)
  refine ⟨fok67, eTry_cps 79 #[.pointer (some ⟨n, 0, none⟩), .pointer (some ⟨n + 1, 0, none⟩)] fok79 W _ (fun w' => ∃ r sm st, decRc S = .ok r ∧ w'.heap[n + 1]? = some (.cells (rcC r sm st).toArray 41 (0, 0)) ∧ w'.ownsRow (W.heap.size + 1) 48 2 sm r.mbs.length (r.mbs.flatMap mbC) ∧ w'.ownsRow (W.heap.size + 1) 9 1 st r.tags.length (r.tags.map strV) ∧ Mod [] w w') (fun c w' => decRc S = .error c ∧ w'.heap[n + 1]? = some (.cells #[.int .i64 0, .int .i64 0, .int .i64 0, .int .i64 0, .slice none 0 0, .slice none 0 0] 41 (0, 0)) ∧ Mod [] w w') ?_ ?_ ?_⟩
  · refine eDec1_cps S hS n (n + 1) _ hb2 hp2 _ ?_ ?_
    · intro r sm st w' hr hh how hot hM
      refine ⟨.inl ⟨rfl, r, sm, st, hr, hh, by rw [sizeAlloc] at how; exact how, by rw [sizeAlloc] at hot; exact hot, (hM0.trans hM2 (by simp)).trans hM (fun y hy => .inr (by simp at hy; omega))⟩, hM.get hq2 (by simp; omega), ?_⟩
      have := hM.size
      rw [sizeAlloc] at this
      omega
    · intro c w' hr hM
      refine ⟨.inr ⟨c, rfl, hr, hM.get hp2 (by simp), hM0.trans (hM2.trans hM (by simp)) (by simp)⟩, hM.get hq2 (by simp), ?_⟩
      have := hM.size
      rw [sizeAlloc] at this
      omega
  · rintro w1 w2 ⟨r, sm, st, hr, hh, how, hot, hM1⟩ hM12
    refine .inl ⟨_, rfl, hold_ops okT (rs := [.cell 2 41, .tmp 3]) rfl ?_⟩
    obtain ⟨⟨xa, xb, xc⟩, xaud, xmbs, xtags⟩ := r
    have hh2 := hM12.get hh (by simp; omega)
    have hs1 := hM1.size
    have how2 := ownsRow_mod how hM12 (by simp)
    have hot2 := ownsRow_mod hot hM12 (by simp)
    have hM02 : Mod [] w w2 := hM1.trans hM12 (fun y hy => .inr (by simp at hy; omega))
    unfold rcC at hh2
    simp only at hh2 how2 hot2
    have c2 := fun o => cellOf (o := o) hh2
    have x2 := fun o => frozenOf (o := o) hh2
    have hsm := ownsRow_one how2
    have hst := ownsRow_one hot2
    simp (maxSteps := 1000000) (disch := first | omega | (simp only [sizeAlloc, sizeDrew, sizeSet, sizePut] <;> omega) | fail) only [GS, TT_eq, TTl, Nat.reduceAdd, Nat.reduceMul, Nat.reduceSub, Nat.reduceDiv, Nat.reduceMod, Nat.reducePow, Nat.reduceEqDiff, ↓reduceIte, reduceCtorEq, Int.reduceToNat, Int.reduceAdd, Int.reduceSub, Int.reduceMul, c2, x2, cellsL_one hsm, hsm, cellsL_one hst, hst]
    have hhE : (((((((w2.setCell ⟨n + 1, 0, none⟩ (.int .i64 xa)).setCell ⟨n + 1, 1, none⟩ (.int .i64 xb)).setCell ⟨n + 1, 2, none⟩ (.int .i64 xc)).setCell ⟨n + 1, 3, none⟩ (.int .i64 xaud)).setCell ⟨n + 1, 4, none⟩ sm).setCell ⟨n + 1, 5, none⟩ st)).heap[n + 1]? = some (.cells #[.int .i64 xa, .int .i64 xb, .int .i64 xc, .int .i64 xaud, sm, st] 41 (0, 0)) := st6 hh2
    have hMe : Mod [n + 1] w2 (((((((w2.setCell ⟨n + 1, 0, none⟩ (.int .i64 xa)).setCell ⟨n + 1, 1, none⟩ (.int .i64 xb)).setCell ⟨n + 1, 2, none⟩ (.int .i64 xc)).setCell ⟨n + 1, 3, none⟩ (.int .i64 xaud)).setCell ⟨n + 1, 4, none⟩ sm).setCell ⟨n + 1, 5, none⟩ st)) := (((((((Mod.refl [n + 1] w2).set (p := ⟨n + 1, 0, none⟩) (.inl (by simp)) (.int .i64 xa)).set (p := ⟨n + 1, 1, none⟩) (.inl (by simp)) (.int .i64 xb)).set (p := ⟨n + 1, 2, none⟩) (.inl (by simp)) (.int .i64 xc)).set (p := ⟨n + 1, 3, none⟩) (.inl (by simp)) (.int .i64 xaud)).set (p := ⟨n + 1, 4, none⟩) (.inl (by simp)) sm).set (p := ⟨n + 1, 5, none⟩) (.inl (by simp)) st)
    have howE := ownsRow_base (base' := n) (ownsRow_mod how2 hMe (by simp; omega)) (by omega)
    have hotE := ownsRow_base (base' := n) (ownsRow_mod hot2 hMe (by simp; omega)) (by omega)
    have hME : Mod [] w (((((((w2.setCell ⟨n + 1, 0, none⟩ (.int .i64 xa)).setCell ⟨n + 1, 1, none⟩ (.int .i64 xb)).setCell ⟨n + 1, 2, none⟩ (.int .i64 xc)).setCell ⟨n + 1, 3, none⟩ (.int .i64 xaud)).setCell ⟨n + 1, 4, none⟩ sm).setCell ⟨n + 1, 5, none⟩ st)) := ((((((hM02.set (p := ⟨n + 1, 0, none⟩) (.inr hge) (.int .i64 xa)).set (p := ⟨n + 1, 1, none⟩) (.inr hge) (.int .i64 xb)).set (p := ⟨n + 1, 2, none⟩) (.inr hge) (.int .i64 xc)).set (p := ⟨n + 1, 3, none⟩) (.inr hge) (.int .i64 xaud)).set (p := ⟨n + 1, 4, none⟩) (.inr hge) sm).set (p := ⟨n + 1, 5, none⟩) (.inr hge) st)
    revert hhE hMe howE hotE hME
    generalize ((((((w2.setCell ⟨n + 1, 0, none⟩ (.int .i64 xa)).setCell ⟨n + 1, 1, none⟩ (.int .i64 xb)).setCell ⟨n + 1, 2, none⟩ (.int .i64 xc)).setCell ⟨n + 1, 3, none⟩ (.int .i64 xaud)).setCell ⟨n + 1, 4, none⟩ sm).setCell ⟨n + 1, 5, none⟩ st) = wE
    intro hhE hMe howE hotE hME
    have cE := fun o => cellOf (o := o) hhE
    simp (maxSteps := 1000000) (disch := first | omega | (simp only [sizeAlloc, sizeDrew, sizeSet, sizePut] <;> omega) | fail) only [GS, TT_eq, TTl, Nat.reduceAdd, Nat.reduceMul, Nat.reduceSub, Nat.reduceDiv, Nat.reduceMod, Nat.reducePow, Nat.reduceEqDiff, ↓reduceIte, reduceCtorEq, Int.reduceToNat, Int.reduceAdd, Int.reduceSub, Int.reduceMul, loadW]
    exact ⟨_, cE 0, _, cE 1, _, cE 2, _, cE 3, _, cE 4, _, cE 5, h1 _ sm st _ hr howE hotE hME⟩
  · rintro c w1 w2 ⟨hr, hh, hM1⟩ hM12
    refine .inl ⟨_, rfl, hold_ops okT (rs := [.cell 2 41, .tmp 3]) rfl ?_⟩
    have hh2 := hM12.get hh (by simp; omega)
    have hc0 : ¬ c = 0 := by have := (decRc_err hr).1; omega
    have c2 := fun o => cellOf (o := o) hh2
    have x2 := fun o => frozenOf (o := o) hh2
    have hM02 : Mod [] w w2 := hM1.trans hM12 (fun y hy => .inr (by simp at hy; omega))
    simp (maxSteps := 1000000) (disch := first | omega | (simp only [sizeAlloc, sizeDrew, sizeSet, sizePut] <;> omega) | fail) only [GS, TT_eq, TTl, Nat.reduceAdd, Nat.reduceMul, Nat.reduceSub, Nat.reduceDiv, Nat.reduceMod, Nat.reducePow, Nat.reduceEqDiff, ↓reduceIte, reduceCtorEq, Int.reduceToNat, Int.reduceAdd, Int.reduceSub, Int.reduceMul, c2, x2, hc0]
    have hhE : (((((((w2.setCell ⟨n + 1, 0, none⟩ (.int .i64 0)).setCell ⟨n + 1, 1, none⟩ (.int .i64 0)).setCell ⟨n + 1, 2, none⟩ (.int .i64 0)).setCell ⟨n + 1, 3, none⟩ (.int .i64 0)).setCell ⟨n + 1, 4, none⟩ (.slice none 0 0)).setCell ⟨n + 1, 5, none⟩ (.slice none 0 0))).heap[n + 1]? = some (.cells #[.int .i64 0, .int .i64 0, .int .i64 0, .int .i64 0, .slice none 0 0, .slice none 0 0] 41 (0, 0)) := st6 hh2
    have hME : Mod [] w (((((((w2.setCell ⟨n + 1, 0, none⟩ (.int .i64 0)).setCell ⟨n + 1, 1, none⟩ (.int .i64 0)).setCell ⟨n + 1, 2, none⟩ (.int .i64 0)).setCell ⟨n + 1, 3, none⟩ (.int .i64 0)).setCell ⟨n + 1, 4, none⟩ (.slice none 0 0)).setCell ⟨n + 1, 5, none⟩ (.slice none 0 0))) := ((((((hM02.set (p := ⟨n + 1, 0, none⟩) (.inr hge) (.int .i64 0)).set (p := ⟨n + 1, 1, none⟩) (.inr hge) (.int .i64 0)).set (p := ⟨n + 1, 2, none⟩) (.inr hge) (.int .i64 0)).set (p := ⟨n + 1, 3, none⟩) (.inr hge) (.int .i64 0)).set (p := ⟨n + 1, 4, none⟩) (.inr hge) (.slice none 0 0)).set (p := ⟨n + 1, 5, none⟩) (.inr hge) (.slice none 0 0))
    revert hhE hME
    generalize ((((((w2.setCell ⟨n + 1, 0, none⟩ (.int .i64 0)).setCell ⟨n + 1, 1, none⟩ (.int .i64 0)).setCell ⟨n + 1, 2, none⟩ (.int .i64 0)).setCell ⟨n + 1, 3, none⟩ (.int .i64 0)).setCell ⟨n + 1, 4, none⟩ (.slice none 0 0)).setCell ⟨n + 1, 5, none⟩ (.slice none 0 0)) = wE
    intro hhE hME
    have cE := fun o => cellOf (o := o) hhE
    simp (maxSteps := 1000000) (disch := first | omega | (simp only [sizeAlloc, sizeDrew, sizeSet, sizePut] <;> omega) | fail) only [GS, TT_eq, TTl, Nat.reduceAdd, Nat.reduceMul, Nat.reduceSub, Nat.reduceDiv, Nat.reduceMod, Nat.reducePow, Nat.reduceEqDiff, ↓reduceIte, reduceCtorEq, Int.reduceToNat, Int.reduceAdd, Int.reduceSub, Int.reduceMul, loadW]
    exact ⟨_, cE 0, _, cE 1, _, cE 2, _, cE 3, _, cE 4, _, cE 5, h0 c _ hr hME⟩
end Go.Proofs.YtcikecociiebkaaGreatDoor
set_option linter.unusedSimpArgs false
set_option linter.unusedVariables false
set_option maxRecDepth 20000
namespace Go.Proofs.YtcikecociiebkaaGreatDoor
open Go Go.Wk Go.RowKit
attribute [local irreducible] go Hold
open Go.Lib
/-- What is known of a receipt that comes in. -/
structure RcpArg (w : World) (r : Rcp) (sm st : Value) : Prop where
  t1 : I64 r.tx.1
  t2 : I64 r.tx.2.1
  t3 : I64 r.tx.2.2
  aud : I64 r.aud
  mbs : MbsIn w sm r.mbs
  trd : Rd w 1 st r.tags.length (r.tags.map strV)
  tlen : r.tags.length ≤ 9223372036854775807
  tdig : ∀ x ∈ r.tags, x.length ≤ maxLen
def longR (r : Rcp) : Bool := longB r.mbs || decide (20 < r.tags.length) || r.tags.any fun x => decide (20000 < x.length)
theorem longR_is {r : Rcp} (h : longR r = false) : r.mbs.length ≤ 20 ∧ (∀ x ∈ r.mbs, x.2.length ≤ 20000) ∧ r.tags.length ≤ 20 ∧ ∀ x ∈ r.tags, x.length ≤ 20000 := by
  unfold longR longB at h
  simp only [Bool.or_eq_false_iff] at h
  obtain ⟨⟨⟨h1, h2⟩, h3⟩, h4⟩ := h
  have h1 := of_decide_eq_false h1
  have h3 := of_decide_eq_false h3
  refine ⟨by omega, fun x hx => ?_, by omega, fun x hx => ?_⟩
  · have := (List.any_eq_false.1 h2) x hx
    have := of_decide_eq_false (Bool.eq_false_iff.2 this)
    omega
  · have := (List.any_eq_false.1 h4) x hx
    have := of_decide_eq_false (Bool.eq_false_iff.2 this)
    omega
theorem RcpArg.in {w : World} {r : Rcp} {sm st : Value} (h : RcpArg w r sm st) (hl : longR r = false) : RcpIn w r sm st := by
  obtain ⟨l1, l2, l3, l4⟩ := longR_is hl
  exact ⟨h.aud, by omega, h.mbs.dig, h.mbs.rd, by omega, h.tdig, h.trd⟩
/-- The same receipt. -/
def SameQ (m n : Rcp) : Prop := m.tx = n.tx ∧ m.aud = n.aud ∧ m.mbs = n.mbs ∧ m.tags = n.tags
instance (m n : Rcp) : Decidable (SameQ m n) := inferInstanceAs (Decidable (_ ∧ _))
end Go.Proofs.YtcikecociiebkaaGreatDoor
set_option linter.unusedSimpArgs false
set_option linter.unusedVariables false
set_option maxRecDepth 20000
namespace Go.Proofs.YtcikecociiebkaaGreatDoor
open Go Go.Wk Go.RowKit
attribute [local irreducible] go Hold
open Go.Lib
theorem mbs_lt {c : Int} : ∀ {l : List Mb} {last : Int}, mbsB c last l = true → ∀ m ∈ l, last < m.1
  | [], _, _, m, hm => by simp at hm
  | y :: l, last, h, m, hm => by
    simp only [mbsB, Bool.and_eq_true, decide_eq_true_eq] at h
    rcases List.mem_cons.1 hm with rfl | hm
    · exact h.1.2.2.1
    · have := mbs_lt h.2 m hm
      have := h.1.2.2.1
      omega
theorem mbs_nodup {c : Int} : ∀ {l : List Mb} {last : Int}, mbsB c last l = true → (l.map fun m => m.1.toNat).Nodup
  | [], _, _ => by simp
  | y :: l, last, h => by
    have hel := mbs_el h
    have h' := h
    simp only [mbsB, Bool.and_eq_true, decide_eq_true_eq] at h
    rw [List.map_cons, List.nodup_cons]
    refine ⟨fun hm => ?_, mbs_nodup h.2⟩
    obtain ⟨m, hm, e⟩ := List.mem_map.1 hm
    have h1 := mbs_lt h.2 m hm
    have h2 := hel m (by simp [hm])
    have h3 := hel y (by simp)
    omega
theorem rowR_of {S : List UInt8} {l : List (List UInt8)} {n : Int} (hn : n < 0 ∨ (l.length : Int) = n) (hl : l.length ≤ 9223372036854775807) (h : madeS (114 :: numL l.length) l = (S, 0)) : rowR S n = some l := by
  obtain ⟨h1, h2⟩ := row_of hl h
  unfold rowR
  rw [h1, h2, if_pos ⟨rfl, hn⟩]
theorem of_rowR {S : List UInt8} {l : List (List UInt8)} {n : Int} (h : rowR S n = some l) : madeS (114 :: numL l.length) l = (S, 0) := by
  obtain ⟨h1, h2, -⟩ := rowR_is h
  rw [h2]
  exact of_row h1
theorem nums_back : ∀ (l : List Mb) (ps : List (List UInt8)), (∀ m ∈ l, 0 ≤ m.1 ∧ m.1 < 8) → mbRows l = some ps → numsO ps = some (l.map fun m => m.1.toNat)
  | [], ps, _, h => by
    simp only [mbRows, Option.some.injEq] at h
    subst h; rfl
  | m :: l, ps, hm, h => by
    simp only [mbRows] at h
    split at h
    · rename_i h0
      cases hq : mbRows l with
      | none => rw [hq] at h; simp at h
      | some q =>
        rw [hq] at h
        simp only [Option.map_some, Option.some.injEq] at h
        subst h
        have h1 := hm m List.mem_cons_self
        have hr : rowR (madeS (114 :: numL 2) [numE m.1, m.2]).1 2 = some [numE m.1, m.2] := rowR_of (.inr rfl) (by simp) (by show madeS (114 :: numL 2) _ = _; rw [← h0])
        obtain ⟨k, d⟩ := m
        obtain ⟨n, rfl⟩ : ∃ n : Nat, k = n := ⟨k.toNat, by simp only at h1; omega⟩
        simp only at hr h1
        rw [numsO, hr]
        simp only [List.getD_cons_zero]
        rw [numT_of n (by omega)]
        simp only
        rw [nums_back l q (fun x hx => hm x (by simp [hx])) hq]
        simp
    · simp at h
theorem eta2 {x : List UInt8 × Int} (h : x.2 = 0) : x = (x.1, 0) := by rw [← h]
theorem rc_back {r : Rcp} {a : List UInt8} (h : encR r = (a, 0)) : decRc a = .ok r ∧ mayR r = true ∧ checkS a = 0 := by
  unfold encR at h
  split at h
  · rename_i hm
    split at h
    · rename_i t ht
      simp only [Prod.mk.injEq, and_true] at h
      subst h
      unfold encP at ht
      split at ht
      · rename_i hc
        obtain ⟨c1, c2, c3, c4, c5⟩ := hc
        simp only [Option.some.injEq] at ht
        have h5 := eta2 c5
        rw [ht] at h5
        have hrow : rowR t 5 = some (rcL r) := rowR_of (.inr rfl) (by simp [rcL]) h5
        have hck := kind_chk (row_of (l := rcL r) (by simp [rcL]) h5).1 (by decide)
        obtain ⟨htx, ho, hB, hl, hal⟩ := may_is hm
        have hB' := hB
        unfold mbB at hB'
        rw [Bool.and_eq_true] at hB'
        have h6 := (of_decide_eq_true hB'.2).2
        refine ⟨?_, hm, hck⟩
        unfold decRc
        rw [if_neg (by have := (check0 hck).2.2.1; omega), hrow]
        unfold rcL
        simp only [List.getD_cons_zero, List.getD_cons_succ]
        unfold decL
        rw [if_pos rfl, (txn_back (eta2 c1)).1]
        simp only
        obtain ⟨x, aud, mbs, tags⟩ := r
        simp only at c1 c2 c3 c4 ho hB hl hal hB' h6 hm ⊢
        obtain ⟨n, rfl⟩ : ∃ n : Nat, aud = n := ⟨aud.toNat, by omega⟩
        rw [show (numS (n : Int)).1 = numE (n : Int) from rfl, numT_of n (by omega)]
        simp only
        rw [rowR_of (.inl (by decide)) (by omega) (eta2 c4)]
        simp only
        have hum := of_unmb (eta2 c3)
        have c3' := c3
        unfold mbrsS at c3'
        rw [if_pos hB] at c3'
        cases hr : mbRows mbs with
        | none => rw [hr] at c3'; simp at c3'
        | some ps =>
          have hms : mbrsS x.1 mbs = madeS (114 :: numL ps.length) ps := by unfold mbrsS; rw [if_pos hB, hr]
          have hps := (mbRows_len mbs ps hr).1
          unfold decN
          rw [rowR_of (l := ps) (.inl (by decide)) (by omega) (S := (mbrsS x.1 mbs).1) (by rw [hms]; exact eta2 (by rw [← hms]; exact c3))]
          simp only
          rw [nums_back mbs ps (fun m hm => by have := mbs_el hB'.1 m hm; omega) hr]
          simp only
          rw [if_pos (mbs_nodup hB'.1)]
          unfold decM
          rw [hum]
          simp only
          rw [if_pos hm]
      · simp at ht
    · simp at h
  · simp at h
theorem of_rc {S : List UInt8} {r : Rcp} (h : decRc S = .ok r) : encR r = (S, 0) ∧ mayR r = true ∧ checkS S = 0 := by
  obtain ⟨t0, t1, t2, t3, t4, x, a, hrow, h0, hx, ha, htg, hmb, hm, hr⟩ := decRc_ok h
  have h5 := of_rowR hrow
  have hck := kind_chk (rowR_is hrow).1 (by decide)
  refine ⟨?_, hm, hck⟩
  obtain ⟨x', aud, mbs, tags⟩ := r
  simp only [Rcp.mk.injEq] at hr
  obtain ⟨rfl, rfl, -⟩ := hr
  simp only at htg hmb
  have e1 := of_untx hx
  obtain ⟨e2, e3⟩ := of_numT ha
  have e4 := of_rowR htg
  have e5 := (unmb_back hmb).1
  have e6 : numS (a : Int) = (t2, 0) := by
    have h7 : numS (a : Int) = dataS (numL a) := by unfold numS; rw [if_neg (by omega), Int.toNat_natCast]
    rw [h7, numE_data a e3, e2]
  have eL : rcL ⟨x', (a : Int), mbs, tags⟩ = [t0, t1, t2, t3, t4] := by
    unfold rcL
    simp only
    rw [e1, e4, e5, e6, h0]
  unfold encR
  rw [if_pos hm]
  unfold encP
  rw [eL]
  simp only
  rw [show (madeS (114 :: numL 5) [t0, t1, t2, t3, t4]) = (S, 0) from h5, e1, e4, e5, e6]
  simp
end Go.Proofs.YtcikecociiebkaaGreatDoor
set_option linter.unusedSimpArgs false
set_option linter.unusedVariables false
set_option maxRecDepth 20000
namespace Go.Proofs.YtcikecociiebkaaGreatDoor
open Go Go.Wk Go.RowKit
attribute [local irreducible] go Hold
open Go.Lib
def B1 : List UInt8 := [114, 5, 100, 7, 114, 101, 99, 101, 105, 112, 116, 114, 3, 100, 1, 0, 100, 1, 1, 100, 1, 1, 100, 1, 2, 114, 1, 114, 2, 100, 1, 1, 100, 0, 114, 1, 100, 1, 7]
def B2 : List UInt8 := [114, 5, 100, 7, 114, 101, 99, 101, 105, 112, 116, 114, 3, 100, 1, 0, 100, 1, 1, 100, 1, 1, 100, 1, 2, 114, 2, 114, 2, 100, 1, 1, 100, 0, 114, 2, 100, 1, 1, 100, 0, 114, 2, 100, 1, 7, 100, 1, 7]
end Go.Proofs.YtcikecociiebkaaGreatDoor
set_option linter.unusedSimpArgs false
set_option linter.unusedVariables false
set_option maxRecDepth 20000
namespace Go.Proofs.YtcikecociiebkaaGreatDoor
open Go Go.Wk Go.RowKit
attribute [local irreducible] go Hold
open Go.Lib
theorem kyL_comm (k a b : Int) : keyL k b a = keyL k a b := by unfold keyL; rw [Int.min_comm, Int.max_comm]
theorem vMade {h : Tm} {l : List Tm} (hh : Hd h l.length) {x : Tm} (hx : madeS h l = (x, 0)) : checkS x = 0 ∧ partsS x = l ∧ kindS x = kC (h.headD 0) ∧ ∀ y ∈ l, checkS y = 0 := by
  obtain ⟨K, tr, hr⟩ := made_is hh hx
  have h1 := hh.pos
  refine ⟨tr.ok, by rw [tr.parts, hr], ?_, by rw [← hr]; exact tr.root⟩
  unfold kindS
  rw [if_pos tr.ok, tr.1]
  cases h with
  | nil => simp at h1
  | cons d h => rfl
theorem vHd5 : Hd [109] 2 := .inr (.inr (.inr (.inr (.inl ⟨rfl, rfl⟩))))
/-- The key of two for tags. -/
def kyT (a b : Int) : Tm := (atomS (keyL 1 a b)).1
def kysF (aud : Int) (n : Nat) : List Tm := (List.range n).map fun k => kyT aud (k : Nat)
/-- What is wrong with a ballot and its tag. -/
def wrgF (ks : List Tm) (x : Tx) (aud : Int) (mbs : List Mb) (o : Int) (tag : Tm) : Int :=
  if (ks.length : Int) ≤ o then 3 else if (bodyS x aud mbs o).2 ≠ 0 then 80 else if madeS [109] [ks.getD o.toNat [], (bodyS x aud mbs o).1] = (tag, 0) then 0 else 80
/-- The first of n places at which something is wrong. -/
def badF (f : Nat → Int) : Nat → Option Nat
  | 0 => none
  | n + 1 => match badF f n with
    | some k => some k
    | none => if f n = 0 then none else some n
theorem badF_none {f : Nat → Int} : ∀ {n : Nat}, badF f n = none → ∀ k, k < n → f k = 0
  | 0, _, k, hk => by omega
  | n + 1, h, k, hk => by
    unfold badF at h
    split at h
    · cases h
    · rename_i h0
      split at h
      · rename_i h1
        rcases Nat.lt_or_ge k n with h2 | h2
        · exact badF_none h0 k h2
        · have : k = n := by omega
          subst this
          exact h1
      · cases h
theorem badF_of {f : Nat → Int} : ∀ {n : Nat}, (∀ k, k < n → f k = 0) → badF f n = none
  | 0, _ => rfl
  | n + 1, h => by
    unfold badF
    rw [badF_of fun k hk => h k (by omega)]
    simp only
    rw [if_pos (h n (by omega))]
theorem badF_at {f : Nat → Int} {k : Nat} (h : ∀ j, j < k → f j = 0) (hk : f k ≠ 0) : ∀ {n : Nat}, k < n → badF f n = some k
  | 0, hn => by omega
  | n + 1, hn => by
    unfold badF
    rcases Nat.lt_or_ge k n with h2 | h2
    · rw [badF_at h hk h2]
    · have : n = k := by omega
      subst this
      rw [badF_of h]
      simp only
      rw [if_neg hk]
def wrgK (ks : List Tm) (r : Rcp) (k : Nat) : Int := wrgF ks r.tx r.aud r.mbs (r.mbs.getD k (0, [])).1 (r.tags.getD k [])
/-- What a verifier says of a text: the receipt, or where something is wrong, and what. -/
def vfyF (ks : List Tm) (aud : Int) (S : Tm) : Except (Nat × Int) Rcp := match decRc S with
  | .error c => .error (0, c)
  | .ok r => if r.aud ≠ aud then .error (0, 270) else match badF (wrgK ks r) r.mbs.length with
    | some k => .error (k, wrgK ks r k)
    | none => .ok r
theorem vfyF_ok {ks : List Tm} {aud : Int} {S : Tm} {r : Rcp} (h : vfyF ks aud S = .ok r) : decRc S = .ok r ∧ r.aud = aud ∧ ∀ k, k < r.mbs.length → wrgK ks r k = 0 := by
  unfold vfyF at h
  split at h
  · cases h
  · rename_i q hq
    split at h
    · cases h
    · rename_i ha
      split at h
      · cases h
      · rename_i hb
        cases h
        exact ⟨hq, by simpa using ha, badF_none hb⟩
theorem wrgF_ok {ks : List Tm} {x : Tx} {aud : Int} {mbs : List Mb} {o : Int} {tag : Tm} (h : wrgF ks x aud mbs o tag = 0) : o < ks.length ∧ (bodyS x aud mbs o).2 = 0 ∧ madeS [109] [ks.getD o.toNat [], (bodyS x aud mbs o).1] = (tag, 0) := by
  unfold wrgF at h
  split at h
  · cases h
  · rename_i h1
    split at h
    · cases h
    · rename_i h2
      split at h
      · rename_i h3
        exact ⟨by omega, by simpa using h2, h3⟩
      · cases h
theorem kys_at {aud : Int} {n : Nat} {o : Int} (h0 : 0 ≤ o) (h : o < ((kysF aud n).length : Nat)) : (kysF aud n).getD o.toNat [] = kyT aud o := by
  unfold kysF at h ⊢
  rw [List.length_map, List.length_range] at h
  have hl : o.toNat < n := by omega
  rw [List.getD_eq_getElem?_getD, List.getElem?_map, List.getElem?_range hl]
  simp only [Option.map_some, Option.getD_some]
  rw [show ((o.toNat : Nat) : Int) = o by omega]
theorem kys_len (aud : Int) (n : Nat) : (kysF aud n).length = n := by unfold kysF; simp
/-- The tag of what is verified. -/
theorem wrg_tag {aud : Int} {n : Nat} {x : Tx} {mbs : List Mb} {o : Int} {tag : Tm} (h : wrgF (kysF aud n) x aud mbs o tag = 0) : tagS x aud mbs o = (tag, 0) ∧ checkS tag = 0 ∧ partsS tag = [kyT o aud, (bodyS x aud mbs o).1] := by
  obtain ⟨h1, h2, h3⟩ := wrgF_ok h
  have hb := bal_is (body_is h2)
  rw [kys_at hb.2.2.2.1 h1] at h3
  have e : kyT aud o = kyT o aud := by unfold kyT; rw [kyL_comm]
  rw [e] at h3
  unfold tagS
  rw [if_pos h2]
  have := vMade vHd5 h3
  exact ⟨h3, this.1, this.2.1⟩
theorem ky_kind {a b : Int} (ha : 0 ≤ a ∧ a < 8) (hb : 0 ≤ b ∧ b < 8) : kindS (kyT a b) = 2 := by
  have key : ∀ a b : Fin 8, kindS (kyT (a.val : Int) (b.val : Int)) = 2 := by decide +kernel
  have h := key ⟨a.toNat, by omega⟩ ⟨b.toNat, by omega⟩
  simp only at h
  rwa [show ((a.toNat : Nat) : Int) = a by omega, show ((b.toNat : Nat) : Int) = b by omega] at h
theorem ky_ok {a b : Int} (ha : 0 ≤ a ∧ a < 8) (hb : 0 ≤ b ∧ b < 8) : atomS (keyL 1 a b) = (kyT a b, 0) := by
  have key : ∀ a b : Fin 8, (atomS (keyL 1 (a.val : Int) (b.val : Int))).2 = 0 := by decide +kernel
  have h := key ⟨a.toNat, by omega⟩ ⟨b.toNat, by omega⟩
  simp only at h
  rw [show ((a.toNat : Nat) : Int) = a by omega, show ((b.toNat : Nat) : Int) = b by omega] at h
  exact eta2 h
theorem tags_sub {t : Tm} {r : Rcp} (h : decRc t = .ok r) : checkS t = 0 ∧ ∀ x ∈ r.tags, x ∈ subT t := by
  have hc := (of_rc h).2.2
  refine ⟨hc, fun x hx => ?_⟩
  obtain ⟨t0, t1, t2, t3, t4, _, _, h5, _, _, _, h4, _⟩ := decRc_ok h
  obtain ⟨-, e5, -⟩ := rowR_is h5
  obtain ⟨k4, e4, -, ok4, -⟩ := rowR_is h4
  have c4 : checkS t4 = 0 := by
    false_or_by_contra
    rename_i hn
    rw [kind_0 hn] at k4
    omega
  refine subT_of hc (p := t4) (by rw [← e5]; simp) (subT_of c4 (p := x) (by rw [← e4]; exact hx) (subT_self (ok4 x hx)))
theorem has_sub {s x : Tm} (hs : checkS s = 0) (h : x ∈ subT s) : hasS s x = true := by
  unfold hasS inS'
  rw [decide_eq_true ⟨hs, subT_ok hs x h⟩, Bool.true_and, List.any_eq_true]
  unfold subT at h
  obtain ⟨p, hp, e⟩ := List.mem_map.1 h
  exact ⟨p, hp, decide_eq_true e⟩
/-- Does a term stand in one of some? -/
def stdF (l : List Tm) (t : Tm) : Bool := l.any fun s => hasS s t
theorem std_of {l : List Tm} {x : Tm} (h : ∃ s ∈ okL l, x ∈ subT s) : stdF l x = true := by
  obtain ⟨s, hs, hx⟩ := h
  unfold stdF
  rw [List.any_eq_true]
  exact ⟨s, okL_in hs, has_sub (okL_ok l s hs) hx⟩
/-- The plain law of VerifyHolds. -/
theorem holds_plain {seen : List Tm} {aud : Int} {n : Nat} {t : Tm} {r : Rcp} (h : vfyF (kysF aud n) aud t = .ok r) (hm : MkT (AnT (okL seen)) t) :
    0 < r.mbs.length ∧ (0 ≤ aud ∧ aud < 8) ∧ ∀ k (hk : k < r.mbs.length), (0 ≤ r.mbs[k].1 ∧ r.mbs[k].1 < 8) ∧ ∃ tag, tagS r.tx aud r.mbs r.mbs[k].1 = (tag, 0) ∧ checkS tag = 0 ∧ (stdF seen (kyT r.mbs[k].1 aud) = true ∨ stdF seen tag = true) := by
  obtain ⟨h1, rfl, h3⟩ := vfyF_ok h
  obtain ⟨hc, ht⟩ := tags_sub h1
  obtain ⟨-, ha, hmb, htl, -⟩ := may_is (of_rc h1).2.1
  refine ⟨?_, ha, fun k hk => ?_⟩
  · unfold mbB at hmb
    rw [Bool.and_eq_true] at hmb
    have := of_decide_eq_true hmb.2
    omega
  · have h4 := h3 k hk
    unfold wrgK at h4
    rw [List.getD_eq_getElem?_getD, List.getElem?_eq_getElem hk, Option.getD_some, List.getD_eq_getElem?_getD, List.getElem?_eq_getElem (by omega : k < r.tags.length), Option.getD_some] at h4
    have ho := (bal_is (body_is (wrgF_ok h4).2.1)).2.2.2
    obtain ⟨h5, h6, h7⟩ := wrg_tag h4
    refine ⟨ho, _, h5, h6, ?_⟩
    rcases mac_seen (okL_ok seen) hc hm (ht _ (List.getElem_mem _)) h7 (ky_kind ho ha) with h8 | h8
    · exact .inr (std_of h8)
    · exact .inl (std_of h8)
end Go.Proofs.YtcikecociiebkaaGreatDoor
