/-
  The reference: Read of a ballot (walk).
-/
import Derived.Test.YthnlmmkhehphiaaGreatDoorBtBal5
set_option linter.unusedSimpArgs false
set_option linter.unusedVariables false
set_option maxRecDepth 20000
namespace Go.Proofs.YthnlmmkhehphiaaGreatDoor
open Go Go.Wk Go.RowKit
attribute [local irreducible] go Hold
open Go.Lib
set_option maxRecDepth 20000 in
set_option maxHeartbeats 64000000 in
theorem rRead13_cps (S : List UInt8) (hS : S.length ≤ maxLen) (w : World) (R : Ending → World → Prop) (hR : ∀ cv w', w'.ownsRow w.heap.size 65 2 cv (outB S).2.2.1.length ((outB S).2.2.1.flatMap mbC) → Mod [] w w' → R (.returned (.tuple #[balV (outB S).1 (outB S).2.1 cv (outB S).2.2.2, .bool (isB S)])) w') :
    Calls Tryz.prog 37 #[.string ⟨S.toArray⟩] w R := by
  refine calls_go 4000 okT Tryz.func37 rfl (rs := [.cell 2 26, .tmp 3]) rfl Tryz.ntmps37 (args := [.string ⟨S.toArray⟩]) ?_
  simp (maxSteps := 1000000) (disch := first | omega | (simp only [sizeAlloc, sizeDrew, sizeSet, sizePut] <;> omega) | fail) only [GS, TT_eq, TTl, Nat.reduceAdd, Nat.reduceMul, Nat.reduceSub, Nat.reduceDiv, Nat.reduceMod, Nat.reducePow, Nat.reduceEqDiff, ↓reduceIte, reduceCtorEq, Int.reduceToNat, Int.reduceAdd, Int.reduceSub, Int.reduceMul]
  generalize hW : w.alloc (.cells #[.int .i64 0, .int .i64 0, .int .i64 0, .int .i64 0, .slice none 0 0, .int .i64 0] 26) = w1
  obtain ⟨hZ, hM0⟩ := bx6 hW
  clear hW
  have hge : w.heap.size ≤ w.heap.size := Nat.le_refl _
  generalize hn : w.heap.size = n at hZ hge ⊢
  have hge : w.heap.size ≤ n := by omega
  have hno : isB S = false → ∀ w', Mod [] w w' → R (.returned (.tuple #[.agg #[.int .i64 0, .int .i64 0, .int .i64 0, .int .i64 0, .slice none 0 0, .int .i64 0], .bool false])) w' := fun h w' hM => by
    have := hR (.slice none 0 0) w'
    rw [outB_no h, h] at this
    exact this (World.ownsRow_nil _ _ _ _) hM
  have hNo : ∀ w2, w2.heap[n]? = some (.cells #[.int .i64 0, .int .i64 0, .int .i64 0, .int .i64 0, .slice none 0 0, .int .i64 0] 26 (0, 0)) → Mod [] w w2 → w2.heap[n]? = some (.cells #[.int .i64 0, .int .i64 0, .int .i64 0, .int .i64 0, .slice none 0 0, .int .i64 0] 26 (0, 0)) := fun _ h _ => h
  refine ⟨fok59, rPartsA_cps S hS _ _ (fun hc w2 hM_ => .inl ⟨_, rfl, hold_ops okT (rs := [.cell 2 26, .tmp 3]) rfl ?_⟩) (fun hc pv w2 hpo hM_ => .inl ⟨_, rfl, hold_ops okT (rs := [.cell 2 26, .tmp 3]) rfl ?_⟩)⟩
  · have hk : kindS S = 0 := by unfold kindS; rw [if_neg hc]
    replace hZ := hM_.get hZ (by simp)
    replace hM0 := hM0.trans hM_ (by simp)
    simp (maxSteps := 1000000) (disch := first | omega | (simp only [sizeAlloc, sizeDrew, sizeSet, sizePut] <;> omega) | fail) only [GS, TT_eq, TTl, Nat.reduceAdd, Nat.reduceMul, Nat.reduceSub, Nat.reduceDiv, Nat.reduceMod, Nat.reducePow, Nat.reduceEqDiff, ↓reduceIte, reduceCtorEq, Int.reduceToNat, Int.reduceAdd, Int.reduceSub, Int.reduceMul]
    refine ⟨fok60, rKindA_cps S hS _ _ fun w3 hM_ => .inl ⟨_, rfl, hold_ops okT (rs := [.cell 2 26, .tmp 3]) rfl ?_⟩⟩
    replace hZ := hM_.get hZ (by simp)
    replace hM0 := hM0.trans hM_ (by simp)
    rw [hk]
    have zc := fun o => cellOf (o := o) hZ
    have zx := fun o => frozenOf (o := o) hZ
    simp (maxSteps := 1000000) (disch := first | omega | (simp only [sizeAlloc, sizeDrew, sizeSet, sizePut] <;> omega) | fail) only [GS, TT_eq, TTl, Nat.reduceAdd, Nat.reduceMul, Nat.reduceSub, Nat.reduceDiv, Nat.reduceMod, Nat.reducePow, Nat.reduceEqDiff, ↓reduceIte, reduceCtorEq, Int.reduceToNat, Int.reduceAdd, Int.reduceSub, Int.reduceMul, zc, zx]
    refine load6r (st6r hZ) ?_
    exact hno (isB_kind (.inl (by rw [hk]; decide))) _ (modSet6r hM0 (.inr hge))
  replace hZ := hM_.get hZ (by simp)
  replace hM0 := hM0.trans hM_ (by simp)
  have hpc := parts_ok hc
  have hpl := partsS_len S
  have hpR := Rd.own hpo
  obtain ⟨pa, pc, rfl⟩ := hpR.slice
  simp (maxSteps := 1000000) (disch := first | omega | (simp only [sizeAlloc, sizeDrew, sizeSet, sizePut] <;> omega) | fail) only [GS, TT_eq, TTl, Nat.reduceAdd, Nat.reduceMul, Nat.reduceSub, Nat.reduceDiv, Nat.reduceMod, Nat.reducePow, Nat.reduceEqDiff, ↓reduceIte, reduceCtorEq, Int.reduceToNat, Int.reduceAdd, Int.reduceSub, Int.reduceMul]
  refine ⟨fok60, rKindA_cps S hS _ _ fun w3 hM_ => .inl ⟨_, rfl, hold_ops okT (rs := [.cell 2 26, .tmp 3]) rfl ?_⟩⟩
  replace hZ := hM_.get hZ (by simp)
  replace hM0 := hM0.trans hM_ (by simp)
  replace hpo := ownsRow_mod hpo hM_ (by simp)
  by_cases hk : kindS S = 3
  rotate_left
  · have hki : ¬ ((kindS S : Nat) : Int) = 3 := by omega
    have zc := fun o => cellOf (o := o) hZ
    have zx := fun o => frozenOf (o := o) hZ
    simp (maxSteps := 1000000) (disch := first | omega | (simp only [sizeAlloc, sizeDrew, sizeSet, sizePut] <;> omega) | fail) only [GS, TT_eq, TTl, Nat.reduceAdd, Nat.reduceMul, Nat.reduceSub, Nat.reduceDiv, Nat.reduceMod, Nat.reducePow, Nat.reduceEqDiff, ↓reduceIte, reduceCtorEq, Int.reduceToNat, Int.reduceAdd, Int.reduceSub, Int.reduceMul, zc, zx, hki]
    refine load6r (st6r hZ) ?_
    exact hno (isB_kind (.inl hk)) _ (modSet6r hM0 (.inr hge))
  by_cases hl : (partsS S).length = 5
  rotate_left
  · have hli : ¬ (((partsS S).length : Nat) : Int) = 5 := by omega
    have hki : ((kindS S : Nat) : Int) = 3 := by omega
    have zc := fun o => cellOf (o := o) hZ
    have zx := fun o => frozenOf (o := o) hZ
    simp (maxSteps := 1000000) (disch := first | omega | (simp only [sizeAlloc, sizeDrew, sizeSet, sizePut] <;> omega) | fail) only [GS, TT_eq, TTl, Nat.reduceAdd, Nat.reduceMul, Nat.reduceSub, Nat.reduceDiv, Nat.reduceMod, Nat.reducePow, Nat.reduceEqDiff, ↓reduceIte, reduceCtorEq, Int.reduceToNat, Int.reduceAdd, Int.reduceSub, Int.reduceMul, zc, zx, hki, hli]
    refine load6r (st6r hZ) ?_
    exact hno (isB_kind (.inr hl)) _ (modSet6r hM0 (.inr hge))
  have hki : ((kindS S : Nat) : Int) = 3 := by omega
  have hli : (((partsS S).length : Nat) : Int) = 5 := by omega
  simp (maxSteps := 1000000) (disch := first | omega | (simp only [sizeAlloc, sizeDrew, sizeSet, sizePut] <;> omega) | fail) only [GS, TT_eq, TTl, Nat.reduceAdd, Nat.reduceMul, Nat.reduceSub, Nat.reduceDiv, Nat.reduceMod, Nat.reducePow, Nat.reduceEqDiff, ↓reduceIte, reduceCtorEq, Int.reduceToNat, Int.reduceAdd, Int.reduceSub, Int.reduceMul, hki, hli]
  rw [hl]
  clear hki hli hpR
  obtain ⟨t0, t1, t2, t3, t4, hps⟩ := len5b hl
  have hOk := isB_is hk hps
  have hrd : rdB S = rdB S := rfl
  conv at hrd => rhs; unfold rdB
  rw [hps] at hrd hpo hpc
  simp only [List.getD_cons_zero, List.getD_cons_succ] at hrd
  have z0 := (check0 (hpc t0 (by simp))).2.2.1
  have z1 := (check0 (hpc t1 (by simp))).2.2.1
  have z2 := (check0 (hpc t2 (by simp))).2.2.1
  have z3 := (check0 (hpc t3 (by simp))).2.2.1
  have z4 := (check0 (hpc t4 (by simp))).2.2.1
  obtain ⟨b1, o1, c1, e1, _, g1⟩ := (Rd.own hpo).at (by simp) (by simp)
  have f0 : w3.cell? ⟨b1, o1, none⟩ = some (.string ⟨t0.toArray⟩) := g1 0 _ rfl
  have f1 : w3.cell? ⟨b1, o1 + 1, none⟩ = some (.string ⟨t1.toArray⟩) := g1 1 _ rfl
  have f2 : w3.cell? ⟨b1, o1 + 2, none⟩ = some (.string ⟨t2.toArray⟩) := g1 2 _ rfl
  have f3 : w3.cell? ⟨b1, o1 + 3, none⟩ = some (.string ⟨t3.toArray⟩) := g1 3 _ rfl
  have f4 : w3.cell? ⟨b1, o1 + 4, none⟩ = some (.string ⟨t4.toArray⟩) := g1 4 _ rfl
  rw [Value.slice.injEq] at e1
  obtain ⟨rfl, hl5, rfl⟩ := e1
  clear g1 hpo hps hpc
  have hb1 := cell_lt13 f0
  have hnl := (Array.getElem?_eq_some_iff.1 hZ).1
  clear f0
  simp (maxSteps := 1000000) (disch := first | omega | (simp only [sizeAlloc, sizeDrew, sizeSet, sizePut] <;> omega) | fail) only [GS, TT_eq, TTl, Nat.reduceAdd, Nat.reduceMul, Nat.reduceSub, Nat.reduceDiv, Nat.reduceMod, Nat.reducePow, Nat.reduceEqDiff, ↓reduceIte, reduceCtorEq, Int.reduceToNat, Int.reduceAdd, Int.reduceSub, Int.reduceMul, f1]
  refine ⟨fok82, rReadTxn13_u t1 (by unfold maxLen; omega) _ _ fun  u1 hM_ => .inl ⟨_, rfl, hold_stop (s' := some 5) (hold_ops okT (rs := [.cell 2 26, .tmp 3]) rfl ?_)⟩⟩
  replace hZ := hM_.get hZ (by simp)
  replace hM0 := hM0.trans hM_ (by simp)
  replace f1 := cellMS13 f1 hM_ (by simp)
  replace f2 := cellMS13 f2 hM_ (by simp)
  replace f3 := cellMS13 f3 hM_ (by simp)
  replace f4 := cellMS13 f4 hM_ (by simp)
  generalize (untxO t1).getD (0, 0, 0) = T at *
  obtain ⟨xa, xb, xc⟩ := T
  unfold txV
  simp only at hrd ⊢
  simp (maxSteps := 1000000) (disch := first | omega | (simp only [sizeAlloc, sizeDrew, sizeSet, sizePut] <;> omega) | fail) only [GS, TT_eq, TTl, Nat.reduceAdd, Nat.reduceMul, Nat.reduceSub, Nat.reduceDiv, Nat.reduceMod, Nat.reducePow, Nat.reduceEqDiff, ↓reduceIte, reduceCtorEq, Int.reduceToNat, Int.reduceAdd, Int.reduceSub, Int.reduceMul]
  generalize hW : (((u1.alloc (.cells #[.int .i64 0, .int .i64 0, .int .i64 0] 23)).setCell ⟨u1.heap.size, 0, none⟩ (.int .i64 xa)).setCell ⟨u1.heap.size, 1, none⟩ (.int .i64 xb)).setCell ⟨u1.heap.size, 2, none⟩ (.int .i64 xc) = w6
  obtain ⟨hX, hM_⟩ := box3b hW
  clear hW
  have hnx : n < u1.heap.size := (Array.getElem?_eq_some_iff.1 hZ).1
  generalize u1.heap.size = qx at *
  replace hZ := hM_.get hZ (by simp)
  replace hM0 := hM0.trans hM_ (by simp)
  replace f1 := cellMS13 f1 hM_ (by simp)
  replace f2 := cellMS13 f2 hM_ (by simp)
  replace f3 := cellMS13 f3 hM_ (by simp)
  replace f4 := cellMS13 f4 hM_ (by simp)
  refine hold_stop (s' := none) ?_
  refine hold_code okT (rs := [.cell 2 26, .tmp 3]) rfl ?_
  simp (maxSteps := 1000000) (disch := first | omega | (simp only [sizeAlloc, sizeDrew, sizeSet, sizePut] <;> omega) | fail) only [GS, TT_eq, TTl, Nat.reduceAdd, Nat.reduceMul, Nat.reduceSub, Nat.reduceDiv, Nat.reduceMod, Nat.reducePow, Nat.reduceEqDiff, ↓reduceIte, reduceCtorEq, Int.reduceToNat, Int.reduceAdd, Int.reduceSub, Int.reduceMul]
  refine hold_draw okT (rs := [.cell 2 26, .tmp 3]) rfl [0, 0, 2, 6, 15, 31, 63, 63, 127, 511] [0, 1, 2, 3, 4, 5, 6, 7, 8, 9] (by kernel_rfl) (by kernel_rfl) ?_
  have hM_ := (Mod.refl [] w6).drewN 1
  generalize w6.drewN 1 = w7 at *
  replace hZ := hM_.get hZ (by simp)
  replace hM0 := hM0.trans hM_ (by simp)
  replace f2 := cellMS13 f2 hM_ (by simp)
  replace f3 := cellMS13 f3 hM_ (by simp)
  replace f4 := cellMS13 f4 hM_ (by simp)
  replace hX := hM_.get hX (by simp)
  have c_hX := fun o => cellOf (o := o) hX
  have hRM := fun w R h => rReadMembers13_u (xa, xb, xc) t3 (by unfold maxLen; omega) w R h
  unfold txV at hRM
  simp only at hRM
  simp (maxSteps := 1000000) (disch := first | omega | (simp only [sizeAlloc, sizeDrew, sizeSet, sizePut] <;> omega) | fail) only [GS, TT_eq, TTl, Nat.reduceAdd, Nat.reduceMul, Nat.reduceSub, Nat.reduceDiv, Nat.reduceMod, Nat.reducePow, Nat.reduceEqDiff, ↓reduceIte, reduceCtorEq, Int.reduceToNat, Int.reduceAdd, Int.reduceSub, Int.reduceMul, f3, c_hX]
  refine ⟨fok83, hRM _ _ fun mv w8 hO hM_ => .inl ⟨_, rfl, ?_⟩⟩
  have hXa := fun o => cellOf (o := o) (hM_.get hX (by simp))
  have f3' := cellMS13 f3 hM_ (by simp)
  first | refine hold_dops okT (rs := [.cell 2 26, .tmp 3]) rfl ?_ | refine ⟨(by repeat' (first | exact f3' | exact hXa _ | apply And.intro)), hold_dops okT (rs := [.cell 2 26, .tmp 3]) rfl ?_⟩
  clear hXa f3'
  have hqm := (Array.getElem?_eq_some_iff.1 hX).1
  replace hZ := hM_.get hZ (by simp)
  replace hM0 := hM0.trans hM_ (by simp)
  replace f2 := cellMS13 f2 hM_ (by simp)
  replace f3 := cellMS13 f3 hM_ (by simp)
  replace f4 := cellMS13 f4 hM_ (by simp)
  replace hX := hM_.get hX (by simp)
  obtain ⟨hl6, hd6⟩ := unmb_get13 xa t3
  have osm := ownsRow_one hO
  generalize (unmbS xa t3).getD [] = mm at *
  generalize w7.heap.size = q7 at *
  simp (maxSteps := 1000000) (disch := first | omega | (simp only [sizeAlloc, sizeDrew, sizeSet, sizePut] <;> omega) | fail) only [GS, TT_eq, TTl, Nat.reduceAdd, Nat.reduceMul, Nat.reduceSub, Nat.reduceDiv, Nat.reduceMod, Nat.reducePow, Nat.reduceEqDiff, ↓reduceIte, reduceCtorEq, Int.reduceToNat, Int.reduceAdd, Int.reduceSub, Int.reduceMul, osm, cellsL_one osm, f2]
  refine ⟨fok84, rReadNumA_cps t2 (by unfold maxLen; omega) _ _ fun  u2 hM_ => .inl ⟨_, rfl, hold_ops okT (rs := [.cell 2 26, .tmp 3]) rfl ?_⟩⟩
  replace hZ := hM_.get hZ (by simp)
  replace hM0 := hM0.trans hM_ (by simp)
  replace f2 := cellMS13 f2 hM_ (by simp)
  replace f4 := cellMS13 f4 hM_ (by simp)
  replace hX := hM_.get hX (by simp)
  replace hO := ownsRow_mod hO hM_ (by simp)
  rw [nuV_u13]
  have hn2 := num_get13 t2
  generalize (numT t2).getD 0 = n2 at *
  generalize (numT t2).isSome = d2 at *
  simp (maxSteps := 1000000) (disch := first | omega | (simp only [sizeAlloc, sizeDrew, sizeSet, sizePut] <;> omega) | fail) only [GS, TT_eq, TTl, Nat.reduceAdd, Nat.reduceMul, Nat.reduceSub, Nat.reduceDiv, Nat.reduceMod, Nat.reducePow, Nat.reduceEqDiff, ↓reduceIte, reduceCtorEq, Int.reduceToNat, Int.reduceAdd, Int.reduceSub, Int.reduceMul, f4]
  refine ⟨fok84, rReadNumA_cps t4 (by unfold maxLen; omega) _ _ fun  u3 hM_ => .inl ⟨_, rfl, hold_stop (s' := some 8) (hold_ops okT (rs := [.cell 2 26, .tmp 3]) rfl ?_)⟩⟩
  replace hZ := hM_.get hZ (by simp)
  replace hM0 := hM0.trans hM_ (by simp)
  replace f2 := cellMS13 f2 hM_ (by simp)
  replace f4 := cellMS13 f4 hM_ (by simp)
  replace hX := hM_.get hX (by simp)
  replace hO := ownsRow_mod hO hM_ (by simp)
  rw [nuV_u13]
  have hn4 := num_get13 t4
  generalize (numT t4).getD 0 = n4 at *
  generalize (numT t4).isSome = d4 at *
  simp (maxSteps := 1000000) (disch := first | omega | (simp only [sizeAlloc, sizeDrew, sizeSet, sizePut] <;> omega) | fail) only [GS, TT_eq, TTl, Nat.reduceAdd, Nat.reduceMul, Nat.reduceSub, Nat.reduceDiv, Nat.reduceMod, Nat.reducePow, Nat.reduceEqDiff, ↓reduceIte, reduceCtorEq, Int.reduceToNat, Int.reduceAdd, Int.reduceSub, Int.reduceMul]
  have c_hX := fun o => cellOf (o := o) hX
  refine hold_stop (s' := none) ?_
  refine hold_code okT (rs := [.cell 2 26, .tmp 3]) rfl ?_
  simp (maxSteps := 1000000) (disch := first | omega | (simp only [sizeAlloc, sizeDrew, sizeSet, sizePut] <;> omega) | fail) only [GS, TT_eq, TTl, Nat.reduceAdd, Nat.reduceMul, Nat.reduceSub, Nat.reduceDiv, Nat.reduceMod, Nat.reducePow, Nat.reduceEqDiff, ↓reduceIte, reduceCtorEq, Int.reduceToNat, Int.reduceAdd, Int.reduceSub, Int.reduceMul, osm, cellsL_one osm, c_hX]
  generalize hW : (((((((u3.alloc (.cells #[.int .i64 0, .int .i64 0, .int .i64 0, .int .i64 0, .slice none 0 0, .int .i64 0] 26)).setCell ⟨u3.heap.size, 0, none⟩ (.int .i64 xa)).setCell ⟨u3.heap.size, 1, none⟩ (.int .i64 xb)).setCell ⟨u3.heap.size, 2, none⟩ (.int .i64 xc)).setCell ⟨u3.heap.size, 3, none⟩ (.int .i64 n2)).setCell ⟨u3.heap.size, 4, none⟩ (mv)).setCell ⟨u3.heap.size, 5, none⟩ (.int .i64 n4)) = wB
  obtain ⟨hB, hM_⟩ := box6r hW
  clear hW
  generalize u3.heap.size = b6 at *
  replace hZ := hM_.get hZ (by simp)
  replace hM0 := hM0.trans hM_ (by simp)
  replace hX := hM_.get hX (by simp)
  replace hO := ownsRow_mod hO hM_ (by simp)
  have hBd := fun w h => rBody_cps (xa, xb, xc) n2 mv mm n4 w (by omega) (fun m hm => by have := hd6 m hm; unfold maxLen; omega) h
  have hOk : isB S = decide (bodyS (xa, xb, xc) n2 mm n4 = (S, 0)) := by
    unfold isB bodyQ
    rw [hrd, decide_eq_decide]
    simp only
    exact ⟨fun h => h.2.2, fun h => ⟨hk, hl, h⟩⟩
  have hyes : isB S = true → ∀ w', w'.ownsRow n 65 2 mv mm.length (mm.flatMap mbC) → Mod [] w w' → R (.returned (.tuple #[.agg #[.int .i64 xa, .int .i64 xb, .int .i64 xc, .int .i64 n2, mv, .int .i64 n4], .bool true])) w' := fun h w' ho hM => by
    have := hR mv w'
    rw [outB_ok h, h, hrd, hn] at this
    exact this ho hM
  clear hR hRM
  generalize bodyS (xa, xb, xc) n2 mm n4 = E at *
  obtain ⟨et, ee⟩ := E
  unfold balV stV at hBd
  try simp only at hBd
  refine ⟨fok30, hBd _ (Rd.own hO) _ fun wE hM_ => .inl ⟨_, rfl, hold_ops okT (rs := [.cell 2 26, .tmp 3]) rfl ?_⟩⟩
  replace hZ := hM_.get hZ (by simp)
  replace hM0 := hM0.trans hM_ (by simp)
  replace hX := hM_.get hX (by simp)
  replace hO := ownsRow_mod hO hM_ (by simp)
  replace hB := hM_.get hB (by simp)
  by_cases he : ee = 0
  rotate_left
  · rw [decide_eq_false (fun h => he (by simp only [Prod.mk.injEq] at h; exact h.2))] at hOk
    have zc := fun o => cellOf (o := o) hZ
    have zx := fun o => frozenOf (o := o) hZ
    simp (maxSteps := 1000000) (disch := first | omega | (simp only [sizeAlloc, sizeDrew, sizeSet, sizePut] <;> omega) | fail) only [GS, TT_eq, TTl, Nat.reduceAdd, Nat.reduceMul, Nat.reduceSub, Nat.reduceDiv, Nat.reduceMod, Nat.reducePow, Nat.reduceEqDiff, ↓reduceIte, reduceCtorEq, Int.reduceToNat, Int.reduceAdd, Int.reduceSub, Int.reduceMul, zc, zx, he]
    refine load6r (st6r hZ) ?_
    exact hno hOk _ (modSet6r hM0 (.inr hge))
  by_cases ht : et = S
  rotate_left
  · rw [decide_eq_false (fun h => ht (by simp only [Prod.mk.injEq] at h; exact h.1))] at hOk
    have zc := fun o => cellOf (o := o) hZ
    have zx := fun o => frozenOf (o := o) hZ
    simp (maxSteps := 1000000) (disch := first | omega | (simp only [sizeAlloc, sizeDrew, sizeSet, sizePut] <;> omega) | fail) only [GS, TT_eq, TTl, Nat.reduceAdd, Nat.reduceMul, Nat.reduceSub, Nat.reduceDiv, Nat.reduceMod, Nat.reducePow, Nat.reduceEqDiff, ↓reduceIte, reduceCtorEq, Int.reduceToNat, Int.reduceAdd, Int.reduceSub, Int.reduceMul, zc, zx, he, ht]
    refine load6r (st6r hZ) ?_
    exact hno hOk _ (modSet6r hM0 (.inr hge))
  subst he ht
  rw [decide_eq_true rfl] at hOk
  have cB := fun o => cellOf (o := o) hB
  have zx := fun o => frozenOf (o := o) hZ
  have zc := fun o => cellOf (o := o) hZ
  simp (maxSteps := 1000000) (disch := first | omega | (simp only [sizeAlloc, sizeDrew, sizeSet, sizePut] <;> omega) | fail) only [GS, TT_eq, TTl, Nat.reduceAdd, Nat.reduceMul, Nat.reduceSub, Nat.reduceDiv, Nat.reduceMod, Nat.reducePow, Nat.reduceEqDiff, ↓reduceIte, reduceCtorEq, Int.reduceToNat, Int.reduceAdd, Int.reduceSub, Int.reduceMul, eq_self, cB, zx, zc, osm, cellsL_one osm]
  refine load6r (st6r hZ) ?_
  exact hyes hOk _ (ownsRow_base (base' := n) (ownsRow_mod (S := [n]) hO (modSet6r (F := [n]) (p := n) (x0 := .int .i64 xa) (x1 := .int .i64 xb) (x2 := .int .i64 xc) (x3 := .int .i64 n2) (x4 := mv) (x5 := .int .i64 n4) (Mod.refl [n] wE) (.inl (by simp))) (by simp; omega)) (by omega)) (modSet6r hM0 (.inr hge))
end Go.Proofs.YthnlmmkhehphiaaGreatDoor
