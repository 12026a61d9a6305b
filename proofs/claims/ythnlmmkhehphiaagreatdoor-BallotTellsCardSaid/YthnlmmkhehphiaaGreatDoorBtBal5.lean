/-
  ballot.Read (walk).
-/
import Derived.Test.YthnlmmkhehphiaaGreatDoorBtBal4
set_option linter.unusedSimpArgs false
set_option linter.unusedVariables false
set_option maxRecDepth 20000
namespace Go.Proofs.YthnlmmkhehphiaaGreatDoor
open Go Go.Wk Go.RowKit
attribute [local irreducible] go Hold
open Go.Lib
theorem box3b {w W : World} {t : Nat} {a0 a1 a2 x0 x1 x2 : Value} (h : (((w.alloc (.cells #[a0, a1, a2] t)).setCell ⟨w.heap.size, 0, none⟩ x0).setCell ⟨w.heap.size, 1, none⟩ x1).setCell ⟨w.heap.size, 2, none⟩ x2 = W) : W.heap[w.heap.size]? = some (.cells #[x0, x1, x2] t (0, 0)) ∧ Mod [] w W := by
  subst h
  refine ⟨?_, ((((Mod.refl [] w).alloc (.cells #[a0, a1, a2] t)).set (p := ⟨w.heap.size, 0, none⟩) (.inr (Nat.le_refl _)) x0).set (p := ⟨w.heap.size, 1, none⟩) (.inr (Nat.le_refl _)) x1).set (p := ⟨w.heap.size, 2, none⟩) (.inr (Nat.le_refl _)) x2⟩
  rw [heapSet (heapSet (heapSet heapNew))]
  rfl
theorem len5b {α : Type} {l : List α} (h : l.length = 5) : ∃ a b c d e, l = [a, b, c, d, e] := by
  match l, h with
  | [a, b, c, d, e], _ => exact ⟨a, b, c, d, e, rfl⟩
theorem st6r {w : World} {p t : Nat} {fr : Nat × Nat} {a0 a1 a2 a3 a4 a5 x0 x1 x2 x3 x4 x5 : Value} (hz : w.heap[p]? = some (.cells #[a0, a1, a2, a3, a4, a5] t fr)) : ((((((w.setCell ⟨p, 0, none⟩ (x0)).setCell ⟨p, 1, none⟩ (x1)).setCell ⟨p, 2, none⟩ (x2)).setCell ⟨p, 3, none⟩ (x3)).setCell ⟨p, 4, none⟩ (x4)).setCell ⟨p, 5, none⟩ (x5)).heap[p]? = some (.cells #[x0, x1, x2, x3, x4, x5] t fr) := by
  have h0 : (w.setCell ⟨p, 0, none⟩ x0).heap[p]? = some (.cells #[x0, a1, a2, a3, a4, a5] t fr) := by rw [heapSet hz]; rfl
  revert h0
  generalize w.setCell ⟨p, 0, none⟩ x0 = w0
  intro h0
  have h1 : (w0.setCell ⟨p, 1, none⟩ x1).heap[p]? = some (.cells #[x0, x1, a2, a3, a4, a5] t fr) := by rw [heapSet h0]; rfl
  revert h1
  generalize w0.setCell ⟨p, 1, none⟩ x1 = w1
  intro h1
  have h2 : (w1.setCell ⟨p, 2, none⟩ x2).heap[p]? = some (.cells #[x0, x1, x2, a3, a4, a5] t fr) := by rw [heapSet h1]; rfl
  revert h2
  generalize w1.setCell ⟨p, 2, none⟩ x2 = w2
  intro h2
  have h3 : (w2.setCell ⟨p, 3, none⟩ x3).heap[p]? = some (.cells #[x0, x1, x2, x3, a4, a5] t fr) := by rw [heapSet h2]; rfl
  revert h3
  generalize w2.setCell ⟨p, 3, none⟩ x3 = w3
  intro h3
  have h4 : (w3.setCell ⟨p, 4, none⟩ x4).heap[p]? = some (.cells #[x0, x1, x2, x3, x4, a5] t fr) := by rw [heapSet h3]; rfl
  revert h4
  generalize w3.setCell ⟨p, 4, none⟩ x4 = w4
  intro h4
  have h5 : (w4.setCell ⟨p, 5, none⟩ x5).heap[p]? = some (.cells #[x0, x1, x2, x3, x4, x5] t fr) := by rw [heapSet h4]; rfl
  revert h5
  generalize w4.setCell ⟨p, 5, none⟩ x5 = w5
  intro h5
  exact h5
theorem modSet6r {F : List Nat} {v w : World} {p : Nat} {x0 x1 x2 x3 x4 x5 : Value} (h : Mod F v w) (hn : p ∈ F ∨ v.heap.size ≤ p) : Mod F v ((((((w.setCell ⟨p, 0, none⟩ (x0)).setCell ⟨p, 1, none⟩ (x1)).setCell ⟨p, 2, none⟩ (x2)).setCell ⟨p, 3, none⟩ (x3)).setCell ⟨p, 4, none⟩ (x4)).setCell ⟨p, 5, none⟩ (x5)) := ((((((h).set (p := ⟨p, 0, none⟩) hn x0).set (p := ⟨p, 1, none⟩) hn x1).set (p := ⟨p, 2, none⟩) hn x2).set (p := ⟨p, 3, none⟩) hn x3).set (p := ⟨p, 4, none⟩) hn x4).set (p := ⟨p, 5, none⟩) hn x5
theorem load6r {w : World} {p : Nat} {K : Value → World → Prop} {x0 x1 x2 x3 x4 x5 : Value} (hh : w.heap[p]? = some (.cells #[x0, x1, x2, x3, x4, x5] 26 (0, 0))) (hK : K (.agg #[x0, x1, x2, x3, x4, x5]) w) : loadW TT 26 (.pointer (some ⟨p, 0, none⟩)) w K := by
  have c := fun o => cellOf (o := o) hh
  exact ⟨_, c 0, _, c 1, _, c 2, _, c 3, _, c 4, _, c 5, hK⟩
theorem box6r {w W : World} {t : Nat} {a0 a1 a2 a3 a4 a5 x0 x1 x2 x3 x4 x5 : Value} (h : (((((((w.alloc (.cells #[a0, a1, a2, a3, a4, a5] t)).setCell ⟨w.heap.size, 0, none⟩ (x0)).setCell ⟨w.heap.size, 1, none⟩ (x1)).setCell ⟨w.heap.size, 2, none⟩ (x2)).setCell ⟨w.heap.size, 3, none⟩ (x3)).setCell ⟨w.heap.size, 4, none⟩ (x4)).setCell ⟨w.heap.size, 5, none⟩ (x5)) = W) : W.heap[w.heap.size]? = some (.cells #[x0, x1, x2, x3, x4, x5] t (0, 0)) ∧ Mod [] w W := by
  subst h
  exact ⟨st6r heapNew, modSet6r ((Mod.refl [] w).alloc (.cells #[a0, a1, a2, a3, a4, a5] t)) (.inr (Nat.le_refl _))⟩
set_option maxRecDepth 20000 in
set_option maxHeartbeats 64000000 in
theorem bRead_cps (S : List UInt8) (hS : S.length ≤ maxLen) (w : World) (R : Ending → World → Prop) (hR : ∀ cv w', w'.ownsRow w.heap.size 65 2 cv (outB S).2.2.1.length ((outB S).2.2.1.flatMap mbC) → Mod [] w w' → R (.returned (.tuple #[balV (outB S).1 (outB S).2.1 cv (outB S).2.2.2, .bool (isB S)])) w') :
    Calls Tryz.prog 36 #[.string ⟨S.toArray⟩] w R := by
  refine calls_go 4000 okT Tryz.func36 rfl (rs := [.cell 2 26, .tmp 3]) rfl Tryz.ntmps36 (args := [.string ⟨S.toArray⟩]) ?_
  simp (maxSteps := 1000000) (disch := first | omega | (simp only [sizeAlloc, sizeDrew, sizeSet, sizePut] <;> omega) | fail) only [GS, TT_eq, TTl, Nat.reduceAdd, Nat.reduceMul, Nat.reduceSub, Nat.reduceDiv, Nat.reduceMod, Nat.reducePow, Nat.reduceEqDiff, ↓reduceIte, reduceCtorEq, Int.reduceToNat, Int.reduceAdd, Int.reduceSub, Int.reduceMul]
  generalize hW : w.alloc (.cells #[.int .i64 0, .int .i64 0, .int .i64 0, .int .i64 0, .slice none 0 0, .int .i64 0] 26) = w1
  obtain ⟨hZ, hM0⟩ := bx6 hW
  clear hW
  have hge : w.heap.size ≤ w.heap.size := Nat.le_refl _
  generalize hn : w.heap.size = n at hZ hge ⊢
  have hge : w.heap.size ≤ n := by omega
  have hno : isB S = false → ∀ w', Mod [] w w' → R (.returned (.tuple #[.agg #[.int .i64 0, .int .i64 0, .int .i64 0, .int .i64 0, .slice none 0 0, .int .i64 0], .bool false])) w' := fun h w' hM => by
    have := hR (.slice none 0 0) w'
    rw [outB_no h, h] at this
    exact this (World.ownsRow_nil _ _ _ _) hM
  have hNo : ∀ w2, w2.heap[n]? = some (.cells #[.int .i64 0, .int .i64 0, .int .i64 0, .int .i64 0, .slice none 0 0, .int .i64 0] 26 (0, 0)) → Mod [] w w2 → w2.heap[n]? = some (.cells #[.int .i64 0, .int .i64 0, .int .i64 0, .int .i64 0, .slice none 0 0, .int .i64 0] 26 (0, 0)) := fun _ h _ => h
  refine ⟨fok39, tParts_cps S hS _ _ (fun hc w2 hM_ => .inl ⟨_, rfl, hold_ops okT (rs := [.cell 2 26, .tmp 3]) rfl ?_⟩) (fun hc pv w2 hpo hM_ => .inl ⟨_, rfl, hold_ops okT (rs := [.cell 2 26, .tmp 3]) rfl ?_⟩)⟩
  · have hk : kindS S = 0 := by unfold kindS; rw [if_neg hc]
    replace hZ := hM_.get hZ (by simp)
    replace hM0 := hM0.trans hM_ (by simp)
    simp (maxSteps := 1000000) (disch := first | omega | (simp only [sizeAlloc, sizeDrew, sizeSet, sizePut] <;> omega) | fail) only [GS, TT_eq, TTl, Nat.reduceAdd, Nat.reduceMul, Nat.reduceSub, Nat.reduceDiv, Nat.reduceMod, Nat.reducePow, Nat.reduceEqDiff, ↓reduceIte, reduceCtorEq, Int.reduceToNat, Int.reduceAdd, Int.reduceSub, Int.reduceMul]
    refine ⟨fok55, tKind_cps S hS _ _ fun w3 hM_ => .inl ⟨_, rfl, hold_ops okT (rs := [.cell 2 26, .tmp 3]) rfl ?_⟩⟩
    replace hZ := hM_.get hZ (by simp)
    replace hM0 := hM0.trans hM_ (by simp)
    rw [hk]
    have zc := fun o => cellOf (o := o) hZ
    have zx := fun o => frozenOf (o := o) hZ
    simp (maxSteps := 1000000) (disch := first | omega | (simp only [sizeAlloc, sizeDrew, sizeSet, sizePut] <;> omega) | fail) only [GS, TT_eq, TTl, Nat.reduceAdd, Nat.reduceMul, Nat.reduceSub, Nat.reduceDiv, Nat.reduceMod, Nat.reducePow, Nat.reduceEqDiff, ↓reduceIte, reduceCtorEq, Int.reduceToNat, Int.reduceAdd, Int.reduceSub, Int.reduceMul, zc, zx]
    refine load6r (st6r hZ) ?_
    exact hno (isB_kind (.inl (by rw [hk]; decide))) _ (modSet6r hM0 (.inr hge))
  replace hZ := hM_.get hZ (by simp)
  replace hM0 := hM0.trans hM_ (by simp)
  have hpc := parts_ok hc
  have hpl := partsS_len S
  have hpR := Rd.own hpo
  obtain ⟨pa, pc, rfl⟩ := hpR.slice
  simp (maxSteps := 1000000) (disch := first | omega | (simp only [sizeAlloc, sizeDrew, sizeSet, sizePut] <;> omega) | fail) only [GS, TT_eq, TTl, Nat.reduceAdd, Nat.reduceMul, Nat.reduceSub, Nat.reduceDiv, Nat.reduceMod, Nat.reducePow, Nat.reduceEqDiff, ↓reduceIte, reduceCtorEq, Int.reduceToNat, Int.reduceAdd, Int.reduceSub, Int.reduceMul]
  refine ⟨fok55, tKind_cps S hS _ _ fun w3 hM_ => .inl ⟨_, rfl, hold_ops okT (rs := [.cell 2 26, .tmp 3]) rfl ?_⟩⟩
  replace hZ := hM_.get hZ (by simp)
  replace hM0 := hM0.trans hM_ (by simp)
  replace hpo := ownsRow_mod hpo hM_ (by simp)
  by_cases hk : kindS S = 3
  rotate_left
  · have hki : ¬ ((kindS S : Nat) : Int) = 3 := by omega
    have zc := fun o => cellOf (o := o) hZ
    have zx := fun o => frozenOf (o := o) hZ
    simp (maxSteps := 1000000) (disch := first | omega | (simp only [sizeAlloc, sizeDrew, sizeSet, sizePut] <;> omega) | fail) only [GS, TT_eq, TTl, Nat.reduceAdd, Nat.reduceMul, Nat.reduceSub, Nat.reduceDiv, Nat.reduceMod, Nat.reducePow, Nat.reduceEqDiff, ↓reduceIte, reduceCtorEq, Int.reduceToNat, Int.reduceAdd, Int.reduceSub, Int.reduceMul, zc, zx, hki]
    refine load6r (st6r hZ) ?_
    exact hno (isB_kind (.inl hk)) _ (modSet6r hM0 (.inr hge))
  by_cases hl : (partsS S).length = 5
  rotate_left
  · have hli : ¬ (((partsS S).length : Nat) : Int) = 5 := by omega
    have hki : ((kindS S : Nat) : Int) = 3 := by omega
    have zc := fun o => cellOf (o := o) hZ
    have zx := fun o => frozenOf (o := o) hZ
    simp (maxSteps := 1000000) (disch := first | omega | (simp only [sizeAlloc, sizeDrew, sizeSet, sizePut] <;> omega) | fail) only [GS, TT_eq, TTl, Nat.reduceAdd, Nat.reduceMul, Nat.reduceSub, Nat.reduceDiv, Nat.reduceMod, Nat.reducePow, Nat.reduceEqDiff, ↓reduceIte, reduceCtorEq, Int.reduceToNat, Int.reduceAdd, Int.reduceSub, Int.reduceMul, zc, zx, hki, hli]
    refine load6r (st6r hZ) ?_
    exact hno (isB_kind (.inr hl)) _ (modSet6r hM0 (.inr hge))
  have hki : ((kindS S : Nat) : Int) = 3 := by omega
  have hli : (((partsS S).length : Nat) : Int) = 5 := by omega
  simp (maxSteps := 1000000) (disch := first | omega | (simp only [sizeAlloc, sizeDrew, sizeSet, sizePut] <;> omega) | fail) only [GS, TT_eq, TTl, Nat.reduceAdd, Nat.reduceMul, Nat.reduceSub, Nat.reduceDiv, Nat.reduceMod, Nat.reducePow, Nat.reduceEqDiff, ↓reduceIte, reduceCtorEq, Int.reduceToNat, Int.reduceAdd, Int.reduceSub, Int.reduceMul, hki, hli]
  rw [hl]
  clear hki hli hpR
  obtain ⟨t0, t1, t2, t3, t4, hps⟩ := len5b hl
  have hOk := isB_is hk hps
  have hrd : rdB S = rdB S := rfl
  conv at hrd => rhs; unfold rdB
  rw [hps] at hrd hpo hpc
  simp only [List.getD_cons_zero, List.getD_cons_succ] at hrd
  have z0 := (check0 (hpc t0 (by simp))).2.2.1
  have z1 := (check0 (hpc t1 (by simp))).2.2.1
  have z2 := (check0 (hpc t2 (by simp))).2.2.1
  have z3 := (check0 (hpc t3 (by simp))).2.2.1
  have z4 := (check0 (hpc t4 (by simp))).2.2.1
  obtain ⟨b1, o1, c1, e1, _, g1⟩ := (Rd.own hpo).at (by simp) (by simp)
  have f0 : w3.cell? ⟨b1, o1, none⟩ = some (.string ⟨t0.toArray⟩) := g1 0 _ rfl
  have f1 : w3.cell? ⟨b1, o1 + 1, none⟩ = some (.string ⟨t1.toArray⟩) := g1 1 _ rfl
  have f2 : w3.cell? ⟨b1, o1 + 2, none⟩ = some (.string ⟨t2.toArray⟩) := g1 2 _ rfl
  have f3 : w3.cell? ⟨b1, o1 + 3, none⟩ = some (.string ⟨t3.toArray⟩) := g1 3 _ rfl
  have f4 : w3.cell? ⟨b1, o1 + 4, none⟩ = some (.string ⟨t4.toArray⟩) := g1 4 _ rfl
  rw [Value.slice.injEq] at e1
  obtain ⟨rfl, hl5, rfl⟩ := e1
  clear g1 hpo hps hpc
  have hb1 := cell_lt13 f0
  have hnl := (Array.getElem?_eq_some_iff.1 hZ).1
  generalize hW : (w3.alloc (.cells #[.bool false] 4)).setCell ⟨w3.heap.size, 0, none⟩ (.bool true) = w4
  obtain ⟨hq, hM_⟩ : w4.heap[w3.heap.size]? = some (.cells #[.bool true] 4 (0, 0)) ∧ Mod [] w3 w4 := by
    subst hW
    exact ⟨by rw [heapSet heapNew]; rfl, ((Mod.refl [] w3).alloc _).set (p := ⟨w3.heap.size, 0, none⟩) (.inr (Nat.le_refl _)) _⟩
  clear hW
  have hwq : w.heap.size ≤ w3.heap.size := hM0.size
  generalize w3.heap.size = q at *
  replace hZ := hM_.get hZ (by simp)
  replace hM0 := hM0.trans hM_ (by simp)
  replace f0 := cellMS13 f0 hM_ (by simp)
  replace f1 := cellMS13 f1 hM_ (by simp)
  replace f2 := cellMS13 f2 hM_ (by simp)
  replace f3 := cellMS13 f3 hM_ (by simp)
  replace f4 := cellMS13 f4 hM_ (by simp)
  have hDt := tData_cps BW (by unfold maxLen; decide)
  have dBW : dataS BW = ((dataS BW).1, 0) := by decide
  rw [dBW] at hDt
  generalize (dataS BW).1 = D at hDt hOk
  unfold stV BW at hDt
  simp only at hDt
  refine ⟨fok56, hDt _ _ fun  u1 hM_ => .inl ⟨_, rfl, hold_ops okT (rs := [.cell 2 26, .tmp 3]) rfl ?_⟩⟩
  replace hZ := hM_.get hZ (by simp)
  replace hM0 := hM0.trans hM_ (by simp)
  replace f0 := cellMS13 f0 hM_ (by simp)
  replace f1 := cellMS13 f1 hM_ (by simp)
  replace f2 := cellMS13 f2 hM_ (by simp)
  replace f3 := cellMS13 f3 hM_ (by simp)
  replace f4 := cellMS13 f4 hM_ (by simp)
  replace hq := hM_.get hq (by simp)
  by_cases h0D : t0 = D
  rotate_left
  · have h0' : ¬ D = t0 := fun h => h0D h.symm
    rw [decide_eq_false h0D] at hOk
    simp only [Bool.false_and] at hOk
    have zc := fun o => cellOf (o := o) hZ
    have zx := fun o => frozenOf (o := o) hZ
    simp (maxSteps := 1000000) (disch := first | omega | (simp only [sizeAlloc, sizeDrew, sizeSet, sizePut] <;> omega) | fail) only [GS, TT_eq, TTl, Nat.reduceAdd, Nat.reduceMul, Nat.reduceSub, Nat.reduceDiv, Nat.reduceMod, Nat.reducePow, Nat.reduceEqDiff, ↓reduceIte, reduceCtorEq, Int.reduceToNat, Int.reduceAdd, Int.reduceSub, Int.reduceMul, zc, zx, f0, h0']
    refine load6r (st6r hZ) ?_
    exact hno hOk _ (modSet6r hM0 (.inr hge))
  subst h0D
  rw [decide_eq_true rfl, Bool.true_and] at hOk
  simp (maxSteps := 1000000) (disch := first | omega | (simp only [sizeAlloc, sizeDrew, sizeSet, sizePut] <;> omega) | fail) only [GS, TT_eq, TTl, Nat.reduceAdd, Nat.reduceMul, Nat.reduceSub, Nat.reduceDiv, Nat.reduceMod, Nat.reducePow, Nat.reduceEqDiff, ↓reduceIte, reduceCtorEq, Int.reduceToNat, Int.reduceAdd, Int.reduceSub, Int.reduceMul, f0, f1, eq_self]
  refine ⟨fok80, wReadTxn_u t1 (by unfold maxLen; omega) _ _ fun  u2 hM_ => .inl ⟨_, rfl, hold_stop (s' := some 10) (hold_ops okT (rs := [.cell 2 26, .tmp 3]) rfl ?_)⟩⟩
  replace hZ := hM_.get hZ (by simp)
  replace hM0 := hM0.trans hM_ (by simp)
  replace f0 := cellMS13 f0 hM_ (by simp)
  replace f1 := cellMS13 f1 hM_ (by simp)
  replace f2 := cellMS13 f2 hM_ (by simp)
  replace f3 := cellMS13 f3 hM_ (by simp)
  replace f4 := cellMS13 f4 hM_ (by simp)
  replace hq := hM_.get hq (by simp)
  generalize (untxO t1).isSome = tb at *
  generalize (untxO t1).getD (0, 0, 0) = T at *
  obtain ⟨xa, xb, xc⟩ := T
  unfold txV
  simp only at hrd hOk ⊢
  simp (maxSteps := 1000000) (disch := first | omega | (simp only [sizeAlloc, sizeDrew, sizeSet, sizePut] <;> omega) | fail) only [GS, TT_eq, TTl, Nat.reduceAdd, Nat.reduceMul, Nat.reduceSub, Nat.reduceDiv, Nat.reduceMod, Nat.reducePow, Nat.reduceEqDiff, ↓reduceIte, reduceCtorEq, Int.reduceToNat, Int.reduceAdd, Int.reduceSub, Int.reduceMul]
  generalize hW : (((u2.alloc (.cells #[.int .i64 0, .int .i64 0, .int .i64 0] 23)).setCell ⟨u2.heap.size, 0, none⟩ (.int .i64 xa)).setCell ⟨u2.heap.size, 1, none⟩ (.int .i64 xb)).setCell ⟨u2.heap.size, 2, none⟩ (.int .i64 xc) = w6
  obtain ⟨hX, hM_⟩ := box3b hW
  clear hW
  have hqx : q < u2.heap.size := (Array.getElem?_eq_some_iff.1 hq).1
  generalize u2.heap.size = qx at *
  replace hZ := hM_.get hZ (by simp)
  replace hM0 := hM0.trans hM_ (by simp)
  replace f0 := cellMS13 f0 hM_ (by simp)
  replace f1 := cellMS13 f1 hM_ (by simp)
  replace f2 := cellMS13 f2 hM_ (by simp)
  replace f3 := cellMS13 f3 hM_ (by simp)
  replace f4 := cellMS13 f4 hM_ (by simp)
  replace hq := hM_.get hq (by simp)
  refine hold_stop (s' := none) ?_
  refine hold_code okT (rs := [.cell 2 26, .tmp 3]) rfl ?_
  simp (maxSteps := 1000000) (disch := first | omega | (simp only [sizeAlloc, sizeDrew, sizeSet, sizePut] <;> omega) | fail) only [GS, TT_eq, TTl, Nat.reduceAdd, Nat.reduceMul, Nat.reduceSub, Nat.reduceDiv, Nat.reduceMod, Nat.reducePow, Nat.reduceEqDiff, ↓reduceIte, reduceCtorEq, Int.reduceToNat, Int.reduceAdd, Int.reduceSub, Int.reduceMul]
  refine hold_draw okT (rs := [.cell 2 26, .tmp 3]) rfl [0, 0, 2, 6, 15, 31, 63, 63, 127, 511] [0, 1, 2, 3, 4, 5, 6, 7, 8, 9] (by kernel_rfl) (by kernel_rfl) ?_
  have hM_ := (Mod.refl [] w6).drewN 1
  generalize w6.drewN 1 = w7 at *
  replace hZ := hM_.get hZ (by simp)
  replace hM0 := hM0.trans hM_ (by simp)
  replace f2 := cellMS13 f2 hM_ (by simp)
  replace f3 := cellMS13 f3 hM_ (by simp)
  replace f4 := cellMS13 f4 hM_ (by simp)
  replace hq := hM_.get hq (by simp)
  replace hX := hM_.get hX (by simp)
  have c_hX := fun o => cellOf (o := o) hX
  have hRM := fun w R h => wReadMembers_u (xa, xb, xc) t3 (by unfold maxLen; omega) w R h
  unfold txV at hRM
  simp only at hRM
  simp (maxSteps := 1000000) (disch := first | omega | (simp only [sizeAlloc, sizeDrew, sizeSet, sizePut] <;> omega) | fail) only [GS, TT_eq, TTl, Nat.reduceAdd, Nat.reduceMul, Nat.reduceSub, Nat.reduceDiv, Nat.reduceMod, Nat.reducePow, Nat.reduceEqDiff, ↓reduceIte, reduceCtorEq, Int.reduceToNat, Int.reduceAdd, Int.reduceSub, Int.reduceMul, f3, c_hX]
  refine ⟨fok81, hRM _ _ fun mv w8 hO hM_ => .inl ⟨_, rfl, ?_⟩⟩
  have hXa := fun o => cellOf (o := o) (hM_.get hX (by simp))
  have f3' := cellMS13 f3 hM_ (by simp)
  first | refine hold_dops okT (rs := [.cell 2 26, .tmp 3]) rfl ?_ | refine ⟨(by repeat' (first | exact f3' | exact hXa _ | apply And.intro)), hold_dops okT (rs := [.cell 2 26, .tmp 3]) rfl ?_⟩
  clear hXa f3'
  have hqm := (Array.getElem?_eq_some_iff.1 hX).1
  replace hZ := hM_.get hZ (by simp)
  replace hM0 := hM0.trans hM_ (by simp)
  replace f2 := cellMS13 f2 hM_ (by simp)
  replace f3 := cellMS13 f3 hM_ (by simp)
  replace f4 := cellMS13 f4 hM_ (by simp)
  replace hq := hM_.get hq (by simp)
  replace hX := hM_.get hX (by simp)
  obtain ⟨hl6, hd6⟩ := unmb_get13 xa t3
  have osm := ownsRow_one hO
  generalize (unmbS xa t3).getD [] = mm at *
  generalize (unmbS xa t3).isSome = md at *
  generalize w7.heap.size = q7 at *
  simp (maxSteps := 1000000) (disch := first | omega | (simp only [sizeAlloc, sizeDrew, sizeSet, sizePut] <;> omega) | fail) only [GS, TT_eq, TTl, Nat.reduceAdd, Nat.reduceMul, Nat.reduceSub, Nat.reduceDiv, Nat.reduceMod, Nat.reducePow, Nat.reduceEqDiff, ↓reduceIte, reduceCtorEq, Int.reduceToNat, Int.reduceAdd, Int.reduceSub, Int.reduceMul, osm, cellsL_one osm]
  refine hold_tree okT [0, 0, 0, 4, 12, 30, 0, 0, 0, 256, 768, 1982, 4095, 0, 16383] (.qop 0 (.qop 1 (.qop 2 (.qop 3 (.qop 4 (.qop 6 (.qop 7 (.qop 8 (.qop 9 (.qop 10 (.eff 5 (.eff 11 (.lin [12, 13, 14]) (.eff 13 (.lin [11, 12, 14]) .stop)) (.eff 13 (.lin [5, 11, 12, 14]) .stop)))))))))))) (by kernel_rfl) ?_
  have hM_ := (Mod.refl [] w8).drewN 1
  generalize w8.drewN 1 = w9 at *
  replace hZ := hM_.get hZ (by simp)
  replace hM0 := hM0.trans hM_ (by simp)
  replace f2 := cellMS13 f2 hM_ (by simp)
  replace f4 := cellMS13 f4 hM_ (by simp)
  replace hq := hM_.get hq (by simp)
  replace hX := hM_.get hX (by simp)
  replace hO := ownsRow_mod hO hM_ (by simp)
  have hN2 := bNumC_cps t2 (by unfold maxLen; omega) q
  have hN4 := bNumC_cps t4 (by unfold maxLen; omega) q
  have hna := num_get13 t2
  have hnb := num_get13 t4
  generalize (numT t2).isSome = na at *
  generalize (numT t2).getD 0 = nA at *
  generalize (numT t4).isSome = nb at *
  generalize (numT t4).getD 0 = nB at *
  rw [hrd] at hOk
  simp only at hOk
  have hyes : isB S = true → ∀ w', w'.ownsRow n 65 2 mv mm.length (mm.flatMap mbC) → Mod [] w w' → R (.returned (.tuple #[.agg #[.int .i64 xa, .int .i64 xb, .int .i64 xc, .int .i64 nA, mv, .int .i64 nB], .bool true])) w' := fun h w' ho hM => by
    have := hR mv w'
    rw [outB_ok h, h, hrd, hn] at this
    exact this ho hM
  clear hR hDt hRM
  have hag : ∀ w' : World, w'.heap[qx]? = some (.cells #[.int .i64 xa, .int .i64 xb, .int .i64 xc] 23 (0, 0)) → aggO (consO (w'.cell? ⟨qx, 0, none⟩) (consO (w'.cell? ⟨qx, 1, none⟩) (consO (w'.cell? ⟨qx, 2, none⟩) (some [])))) = some (.agg #[.int .i64 xa, .int .i64 xb, .int .i64 xc]) := by
    intro w' h
    rw [show w'.cell? ⟨qx, 0, none⟩ = some (.int .i64 xa) from cellOf h, show w'.cell? ⟨qx, 1, none⟩ = some (.int .i64 xb) from cellOf h, show w'.cell? ⟨qx, 2, none⟩ = some (.int .i64 xc) from cellOf h]
    rfl
  have hCk := fun w h => balCheck_cps (xa, xb, xc) nA mv mm nB w (by omega) (fun m hm => by have := hd6 m hm; unfold maxLen; omega) h
  unfold balV at hCk
  simp only at hCk
  have hq7 : q < q7 := by omega
  have cX := fun o => cellOf (o := o) hX
  refine ht_val okT rfl rfl (v := .agg #[.int .i64 xa, .int .i64 xb, .int .i64 xc]) (by simp (maxSteps := 1000000) (disch := first | omega | (simp only [sizeAlloc, sizeDrew, sizeSet, sizePut] <;> omega) | fail) only [GS, TT_eq, TTl, Nat.reduceAdd, Nat.reduceMul, Nat.reduceSub, Nat.reduceDiv, Nat.reduceMod, Nat.reducePow, Nat.reduceEqDiff, ↓reduceIte, reduceCtorEq, Int.reduceToNat, Int.reduceAdd, Int.reduceSub, Int.reduceMul, cX]) ?_
  refine ht_val okT rfl rfl (v := .func (Fn.func 79) #[] #[.pointer (some ⟨q, 0, none⟩)]) (by simp (maxSteps := 1000000) only [GS, TT_eq, TTl, Nat.reduceAdd, Nat.reduceMul, Nat.reduceSub, Nat.reduceDiv, Nat.reduceMod, Nat.reducePow, Nat.reduceEqDiff, ↓reduceIte, reduceCtorEq, Int.reduceToNat, Int.reduceAdd, Int.reduceSub, Int.reduceMul]) ?_
  refine ht_val okT rfl rfl (v := .slice (some ⟨b1, o1, none⟩) 5 pc) (by simp (maxSteps := 1000000) only [GS, TT_eq, TTl, Nat.reduceAdd, Nat.reduceMul, Nat.reduceSub, Nat.reduceDiv, Nat.reduceMod, Nat.reducePow, Nat.reduceEqDiff, ↓reduceIte, reduceCtorEq, Int.reduceToNat, Int.reduceAdd, Int.reduceSub, Int.reduceMul]) ?_
  refine ht_val okT rfl rfl (v := .pointer (some ⟨b1, o1 + 2, none⟩)) (by simp (maxSteps := 1000000) (disch := first | omega | (simp only [sizeAlloc, sizeDrew, sizeSet, sizePut] <;> omega) | fail) only [GS, TT_eq, TTl, Nat.reduceAdd, Nat.reduceMul, Nat.reduceSub, Nat.reduceDiv, Nat.reduceMod, Nat.reducePow, Nat.reduceEqDiff, ↓reduceIte, reduceCtorEq, Int.reduceToNat, Int.reduceAdd, Int.reduceSub, Int.reduceMul]) ?_
  refine ht_val okT rfl rfl (v := .string ⟨t2.toArray⟩) (by simp (maxSteps := 1000000) (disch := first | omega | (simp only [sizeAlloc, sizeDrew, sizeSet, sizePut] <;> omega) | fail) only [GS, TT_eq, TTl, Nat.reduceAdd, Nat.reduceMul, Nat.reduceSub, Nat.reduceDiv, Nat.reduceMod, Nat.reducePow, Nat.reduceEqDiff, ↓reduceIte, reduceCtorEq, Int.reduceToNat, Int.reduceAdd, Int.reduceSub, Int.reduceMul, f2]) ?_
  refine ht_val okT rfl rfl (v := mv) (by simp (maxSteps := 1000000) only [GS, TT_eq, TTl, Nat.reduceAdd, Nat.reduceMul, Nat.reduceSub, Nat.reduceDiv, Nat.reduceMod, Nat.reducePow, Nat.reduceEqDiff, ↓reduceIte, reduceCtorEq, Int.reduceToNat, Int.reduceAdd, Int.reduceSub, Int.reduceMul]) ?_
  refine ht_val okT rfl rfl (v := .func (Fn.func 79) #[] #[.pointer (some ⟨q, 0, none⟩)]) (by simp (maxSteps := 1000000) only [GS, TT_eq, TTl, Nat.reduceAdd, Nat.reduceMul, Nat.reduceSub, Nat.reduceDiv, Nat.reduceMod, Nat.reducePow, Nat.reduceEqDiff, ↓reduceIte, reduceCtorEq, Int.reduceToNat, Int.reduceAdd, Int.reduceSub, Int.reduceMul]) ?_
  refine ht_val okT rfl rfl (v := .slice (some ⟨b1, o1, none⟩) 5 pc) (by simp (maxSteps := 1000000) only [GS, TT_eq, TTl, Nat.reduceAdd, Nat.reduceMul, Nat.reduceSub, Nat.reduceDiv, Nat.reduceMod, Nat.reducePow, Nat.reduceEqDiff, ↓reduceIte, reduceCtorEq, Int.reduceToNat, Int.reduceAdd, Int.reduceSub, Int.reduceMul]) ?_
  refine ht_val okT rfl rfl (v := .pointer (some ⟨b1, o1 + 4, none⟩)) (by simp (maxSteps := 1000000) (disch := first | omega | (simp only [sizeAlloc, sizeDrew, sizeSet, sizePut] <;> omega) | fail) only [GS, TT_eq, TTl, Nat.reduceAdd, Nat.reduceMul, Nat.reduceSub, Nat.reduceDiv, Nat.reduceMod, Nat.reducePow, Nat.reduceEqDiff, ↓reduceIte, reduceCtorEq, Int.reduceToNat, Int.reduceAdd, Int.reduceSub, Int.reduceMul]) ?_
  refine ht_val okT rfl rfl (v := .string ⟨t4.toArray⟩) (by simp (maxSteps := 1000000) (disch := first | omega | (simp only [sizeAlloc, sizeDrew, sizeSet, sizePut] <;> omega) | fail) only [GS, TT_eq, TTl, Nat.reduceAdd, Nat.reduceMul, Nat.reduceSub, Nat.reduceDiv, Nat.reduceMod, Nat.reducePow, Nat.reduceEqDiff, ↓reduceIte, reduceCtorEq, Int.reduceToNat, Int.reduceAdd, Int.reduceSub, Int.reduceMul, f4]) ?_
  clear cX
  simp (maxSteps := 1000000) only [GS, TT_eq, TTl, Nat.reduceAdd, Nat.reduceMul, Nat.reduceSub, Nat.reduceDiv, Nat.reduceMod, Nat.reducePow, Nat.reduceEqDiff, ↓reduceIte, reduceCtorEq, Int.reduceToNat, Int.reduceAdd, Int.reduceSub, Int.reduceMul]
  refine ht_call okT rfl rfl ?_ ?_
  · simp (maxSteps := 1000000) (disch := first | omega | (simp only [sizeAlloc, sizeDrew, sizeSet, sizePut] <;> omega) | fail) only [GS, TT_eq, TTl, Nat.reduceAdd, Nat.reduceMul, Nat.reduceSub, Nat.reduceDiv, Nat.reduceMod, Nat.reducePow, Nat.reduceEqDiff, ↓reduceIte, reduceCtorEq, Int.reduceToNat, Int.reduceAdd, Int.reduceSub, Int.reduceMul]
    refine ⟨fok79, hN2 true _ hq _ fun wM2 hq1 hM_ => .inl ⟨_, rfl, ?_⟩⟩
    first | refine ⟨(by have hX := hM_.get hX (by simp; omega); have f2 := cellMS13 f2 hM_ (by simp; omega); have f4 := cellMS13 f4 hM_ (by simp; omega); repeat' (first | exact hag _ hX | exact f2 | exact f4 | apply And.intro)), ?_⟩ | skip
    replace hZ := hM_.get hZ (by simp; omega)
    replace hM0 := hM0.trans hM_ (by simp; omega)
    replace f2 := cellMS13 f2 hM_ (by simp; omega)
    replace f4 := cellMS13 f4 hM_ (by simp; omega)
    replace hX := hM_.get hX (by simp; omega)
    replace hO := ownsRow_mod hO hM_ (by simp; omega)
    replace hq := hq1
    clear hq1 hM_
    refine ht_call okT rfl rfl ?_ ?_
    · simp (maxSteps := 1000000) (disch := first | omega | (simp only [sizeAlloc, sizeDrew, sizeSet, sizePut] <;> omega) | fail) only [GS, TT_eq, TTl, Nat.reduceAdd, Nat.reduceMul, Nat.reduceSub, Nat.reduceDiv, Nat.reduceMod, Nat.reducePow, Nat.reduceEqDiff, ↓reduceIte, reduceCtorEq, Int.reduceToNat, Int.reduceAdd, Int.reduceSub, Int.reduceMul]
      refine ⟨fok79, hN4 (true && na) _ hq _ fun wM4 hq1 hM_ => .inl ⟨_, rfl, ?_⟩⟩
      first | refine ⟨(by have hX := hM_.get hX (by simp; omega); have f2 := cellMS13 f2 hM_ (by simp; omega); have f4 := cellMS13 f4 hM_ (by simp; omega); repeat' (first | exact hag _ hX | exact f2 | exact f4 | apply And.intro)), ?_⟩ | skip
      replace hZ := hM_.get hZ (by simp; omega)
      replace hM0 := hM0.trans hM_ (by simp; omega)
      replace f2 := cellMS13 f2 hM_ (by simp; omega)
      replace f4 := cellMS13 f4 hM_ (by simp; omega)
      replace hX := hM_.get hX (by simp; omega)
      replace hO := ownsRow_mod hO hM_ (by simp; omega)
      replace hq := hq1
      clear hq1 hM_
      refine ht_lin rfl (hold_stop (s' := some 12) (hold_dops okT (rs := [.cell 2 26, .tmp 3]) rfl ?_))
      simp (maxSteps := 1000000) (disch := first | omega | (simp only [sizeAlloc, sizeDrew, sizeSet, sizePut] <;> omega) | fail) only [GS, TT_eq, TTl, Nat.reduceAdd, Nat.reduceMul, Nat.reduceSub, Nat.reduceDiv, Nat.reduceMod, Nat.reducePow, Nat.reduceEqDiff, ↓reduceIte, reduceCtorEq, Int.reduceToNat, Int.reduceAdd, Int.reduceSub, Int.reduceMul, osm, cellsL_one osm]
      have hM_ := (Mod.refl [] wM4).alloc (.cells #[.int .i64 0, .int .i64 0, .int .i64 0, .int .i64 0, .slice none 0 0, .int .i64 0] 26)
      refine ⟨(by have hX := hM_.get hX (by simp); have f2 := cellMS13 f2 hM_ (by simp); have f4 := cellMS13 f4 hM_ (by simp); repeat' (first | exact hag _ hX | exact f2 | exact f4 | apply And.intro)), ?_⟩
      clear hM_
      generalize hW : (((((((wM4.alloc (.cells #[.int .i64 0, .int .i64 0, .int .i64 0, .int .i64 0, .slice none 0 0, .int .i64 0] 26)).setCell ⟨wM4.heap.size, 0, none⟩ (.int .i64 xa)).setCell ⟨wM4.heap.size, 1, none⟩ (.int .i64 xb)).setCell ⟨wM4.heap.size, 2, none⟩ (.int .i64 xc)).setCell ⟨wM4.heap.size, 3, none⟩ (.int .i64 nA)).setCell ⟨wM4.heap.size, 4, none⟩ (mv)).setCell ⟨wM4.heap.size, 5, none⟩ (.int .i64 nB)) = wB
      obtain ⟨hB, hM_⟩ := box6r hW
      clear hW
      generalize wM4.heap.size = b6 at *
      replace hZ := hM_.get hZ (by simp)
      replace hM0 := hM0.trans hM_ (by simp)
      replace f2 := cellMS13 f2 hM_ (by simp)
      replace f4 := cellMS13 f4 hM_ (by simp)
      replace hq := hM_.get hq (by simp)
      replace hX := hM_.get hX (by simp)
      replace hO := ownsRow_mod hO hM_ (by simp)
      refine hold_stop (s' := none) ?_
      refine hold_code okT (rs := [.cell 2 26, .tmp 3]) rfl ?_
      simp only [Bool.true_and] at hq
      have cq := fun o => cellOf (o := o) hq
      have cB := fun o => cellOf (o := o) hB
      cases hnn : (na && nb)
      · rw [hnn] at hOk cq
        simp only [Bool.false_and, Bool.and_false] at hOk
        have zc := fun o => cellOf (o := o) hZ
        have zx := fun o => frozenOf (o := o) hZ
        simp (maxSteps := 1000000) (disch := first | omega | (simp only [sizeAlloc, sizeDrew, sizeSet, sizePut] <;> omega) | fail) only [GS, TT_eq, TTl, Nat.reduceAdd, Nat.reduceMul, Nat.reduceSub, Nat.reduceDiv, Nat.reduceMod, Nat.reducePow, Nat.reduceEqDiff, ↓reduceIte, reduceCtorEq, Int.reduceToNat, Int.reduceAdd, Int.reduceSub, Int.reduceMul, zc, zx, cq, cB, osm, cellsL_one osm]
        refine load6r (st6r hZ) ?_
        exact hno hOk _ (modSet6r hM0 (.inr hge))
      rw [hnn] at hOk cq
      cases tb
      · skip
        simp only [Bool.true_and] at hOk
        simp only [Bool.false_and, Bool.and_false] at hOk
        have zc := fun o => cellOf (o := o) hZ
        have zx := fun o => frozenOf (o := o) hZ
        simp (maxSteps := 1000000) (disch := first | omega | (simp only [sizeAlloc, sizeDrew, sizeSet, sizePut] <;> omega) | fail) only [GS, TT_eq, TTl, Nat.reduceAdd, Nat.reduceMul, Nat.reduceSub, Nat.reduceDiv, Nat.reduceMod, Nat.reducePow, Nat.reduceEqDiff, ↓reduceIte, reduceCtorEq, Int.reduceToNat, Int.reduceAdd, Int.reduceSub, Int.reduceMul, zc, zx, cq, cB, osm, cellsL_one osm]
        refine load6r (st6r hZ) ?_
        exact hno hOk _ (modSet6r hM0 (.inr hge))
      cases md
      · skip
        simp only [Bool.true_and] at hOk
        simp only [Bool.false_and, Bool.and_false] at hOk
        have zc := fun o => cellOf (o := o) hZ
        have zx := fun o => frozenOf (o := o) hZ
        simp (maxSteps := 1000000) (disch := first | omega | (simp only [sizeAlloc, sizeDrew, sizeSet, sizePut] <;> omega) | fail) only [GS, TT_eq, TTl, Nat.reduceAdd, Nat.reduceMul, Nat.reduceSub, Nat.reduceDiv, Nat.reduceMod, Nat.reducePow, Nat.reduceEqDiff, ↓reduceIte, reduceCtorEq, Int.reduceToNat, Int.reduceAdd, Int.reduceSub, Int.reduceMul, zc, zx, cq, cB, osm, cellsL_one osm]
        refine load6r (st6r hZ) ?_
        exact hno hOk _ (modSet6r hM0 (.inr hge))
      simp only [Bool.true_and] at hOk
      simp (maxSteps := 1000000) (disch := first | omega | (simp only [sizeAlloc, sizeDrew, sizeSet, sizePut] <;> omega) | fail) only [GS, TT_eq, TTl, Nat.reduceAdd, Nat.reduceMul, Nat.reduceSub, Nat.reduceDiv, Nat.reduceMod, Nat.reducePow, Nat.reduceEqDiff, ↓reduceIte, reduceCtorEq, Int.reduceToNat, Int.reduceAdd, Int.reduceSub, Int.reduceMul, cq, cB, osm, cellsL_one osm]
      refine ⟨fok31, hCk _ (Rd.own hO) _ fun wE hM_ => .inl ⟨_, rfl, hold_ops okT (rs := [.cell 2 26, .tmp 3]) rfl ?_⟩⟩
      replace hZ := hM_.get hZ (by simp)
      replace hM0 := hM0.trans hM_ (by simp)
      replace f2 := cellMS13 f2 hM_ (by simp)
      replace f4 := cellMS13 f4 hM_ (by simp)
      replace hq := hM_.get hq (by simp)
      replace hX := hM_.get hX (by simp)
      replace hO := ownsRow_mod hO hM_ (by simp)
      replace hB := hM_.get hB (by simp)
      generalize balB (xa, xb, xc) nA mm nB = bb at *
      cases bb
      · simp only [Bool.false_eq_true, if_false]
        have zc := fun o => cellOf (o := o) hZ
        have zx := fun o => frozenOf (o := o) hZ
        simp (maxSteps := 1000000) (disch := first | omega | (simp only [sizeAlloc, sizeDrew, sizeSet, sizePut] <;> omega) | fail) only [GS, TT_eq, TTl, Nat.reduceAdd, Nat.reduceMul, Nat.reduceSub, Nat.reduceDiv, Nat.reduceMod, Nat.reducePow, Nat.reduceEqDiff, ↓reduceIte, reduceCtorEq, Int.reduceToNat, Int.reduceAdd, Int.reduceSub, Int.reduceMul, zc, zx]
        refine load6r (st6r hZ) ?_
        exact hno hOk _ (modSet6r hM0 (.inr hge))
      simp only [if_true]
      have cB := fun o => cellOf (o := o) hB
      have zx := fun o => frozenOf (o := o) hZ
      have zc := fun o => cellOf (o := o) hZ
      simp (maxSteps := 1000000) (disch := first | omega | (simp only [sizeAlloc, sizeDrew, sizeSet, sizePut] <;> omega) | fail) only [GS, TT_eq, TTl, Nat.reduceAdd, Nat.reduceMul, Nat.reduceSub, Nat.reduceDiv, Nat.reduceMod, Nat.reducePow, Nat.reduceEqDiff, ↓reduceIte, reduceCtorEq, Int.reduceToNat, Int.reduceAdd, Int.reduceSub, Int.reduceMul, cB, zx, zc, osm, cellsL_one osm]
      refine load6r (st6r hZ) ?_
      exact hyes hOk _ (ownsRow_base (base' := n) (ownsRow_mod (S := [n]) hO (modSet6r (F := [n]) (p := n) (x0 := .int .i64 xa) (x1 := .int .i64 xb) (x2 := .int .i64 xc) (x3 := .int .i64 nA) (x4 := mv) (x5 := .int .i64 nB) (Mod.refl [n] wE) (.inl (by simp))) (by simp; omega)) (by omega)) (modSet6r hM0 (.inr hge))
    · refine ht_eff okT rfl rfl (v := .pointer (some ⟨wM2.heap.size, 0, none⟩)) (w' := wM2.alloc (.cells #[.int .i64 0, .int .i64 0, .int .i64 0, .int .i64 0, .slice none 0 0, .int .i64 0] 26)) (by simp (maxSteps := 1000000) only [GS, TT_eq, TTl, Nat.reduceAdd, Nat.reduceMul, Nat.reduceSub, Nat.reduceDiv, Nat.reduceMod, Nat.reducePow, Nat.reduceEqDiff, ↓reduceIte, reduceCtorEq, Int.reduceToNat, Int.reduceAdd, Int.reduceSub, Int.reduceMul]) ?_ ?_ ht_stop
      all_goals have hM_ := (Mod.refl [] wM2).alloc (.cells #[.int .i64 0, .int .i64 0, .int .i64 0, .int .i64 0, .slice none 0 0, .int .i64 0] 26)
      all_goals have hB := heapNew (w := wM2) (o := (.cells #[.int .i64 0, .int .i64 0, .int .i64 0, .int .i64 0, .slice none 0 0, .int .i64 0] 26))
      all_goals generalize wM2.alloc (.cells #[.int .i64 0, .int .i64 0, .int .i64 0, .int .i64 0, .slice none 0 0, .int .i64 0] 26) = wA at hM_ hB ⊢
      · simp (maxSteps := 1000000) only [GS, TT_eq, TTl, Nat.reduceAdd, Nat.reduceMul, Nat.reduceSub, Nat.reduceDiv, Nat.reduceMod, Nat.reducePow, Nat.reduceEqDiff, ↓reduceIte, reduceCtorEq, Int.reduceToNat, Int.reduceAdd, Int.reduceSub, Int.reduceMul]
        have hX := hM_.get hX (by simp)
        have f2 := cellMS13 f2 hM_ (by simp)
        have f4 := cellMS13 f4 hM_ (by simp)
        repeat' (first | exact hag _ hX | exact f2 | exact f4 | apply And.intro)
      have hqB : q < wM2.heap.size := (Array.getElem?_eq_some_iff.1 hq).1
      have hnB : n < wM2.heap.size := (Array.getElem?_eq_some_iff.1 hZ).1
      have hwB : w.heap.size ≤ wM2.heap.size := hM0.size
      have hxB : qx < wM2.heap.size := (Array.getElem?_eq_some_iff.1 hX).1
      have hgB : ∀ g, mv.ownBlock = some g → g < wM2.heap.size := fun g hg => (hO.lt g hg).2
      replace hZ := hM_.get hZ (by simp)
      replace hM0 := hM0.trans hM_ (by simp)
      replace f2 := cellMS13 f2 hM_ (by simp)
      replace f4 := cellMS13 f4 hM_ (by simp)
      replace hq := hM_.get hq (by simp)
      replace hX := hM_.get hX (by simp)
      replace hO := ownsRow_mod hO hM_ (by simp)
      clear hM_
      generalize wM2.heap.size = b6 at *
      simp (maxSteps := 1000000) only [GS, TT_eq, TTl, Nat.reduceAdd, Nat.reduceMul, Nat.reduceSub, Nat.reduceDiv, Nat.reduceMod, Nat.reducePow, Nat.reduceEqDiff, ↓reduceIte, reduceCtorEq, Int.reduceToNat, Int.reduceAdd, Int.reduceSub, Int.reduceMul]
      refine ht_lin rfl (hold_stop (s' := some 12) (hold_dops okT (rs := [.cell 2 26, .tmp 3]) rfl ?_))
      simp (maxSteps := 1000000) (disch := first | omega | (simp only [sizeAlloc, sizeDrew, sizeSet, sizePut] <;> omega) | fail) only [GS, TT_eq, TTl, Nat.reduceAdd, Nat.reduceMul, Nat.reduceSub, Nat.reduceDiv, Nat.reduceMod, Nat.reducePow, Nat.reduceEqDiff, ↓reduceIte, reduceCtorEq, Int.reduceToNat, Int.reduceAdd, Int.reduceSub, Int.reduceMul]
      refine ⟨fok79, hN4 (true && na) _ hq _ fun wN4 hq1 hM_ => .inl ⟨_, rfl, ?_⟩⟩
      first | refine ⟨(by have hX := hM_.get hX (by simp; omega); have f2 := cellMS13 f2 hM_ (by simp; omega); have f4 := cellMS13 f4 hM_ (by simp; omega); repeat' (first | exact hag _ hX | exact f2 | exact f4 | apply And.intro)), hold_dops okT (rs := [.cell 2 26, .tmp 3]) rfl ?_⟩ | refine hold_dops okT (rs := [.cell 2 26, .tmp 3]) rfl ?_
      replace hZ := hM_.get hZ (by simp; omega)
      replace hM0 := hM0.trans hM_ (by simp; omega)
      replace f2 := cellMS13 f2 hM_ (by simp; omega)
      replace f4 := cellMS13 f4 hM_ (by simp; omega)
      replace hX := hM_.get hX (by simp; omega)
      replace hO := ownsRow_mod hO hM_ (by simp; omega)
      replace hB := hM_.get hB (by simp; omega)
      replace hq := hq1
      clear hq1 hM_
      have cb := fun o => cellOf (o := o) hB
      have xb' := fun o => frozenOf (o := o) hB
      simp (maxSteps := 1000000) (disch := first | omega | (simp only [sizeAlloc, sizeDrew, sizeSet, sizePut] <;> omega) | fail) only [GS, TT_eq, TTl, Nat.reduceAdd, Nat.reduceMul, Nat.reduceSub, Nat.reduceDiv, Nat.reduceMod, Nat.reducePow, Nat.reduceEqDiff, ↓reduceIte, reduceCtorEq, Int.reduceToNat, Int.reduceAdd, Int.reduceSub, Int.reduceMul, cb, xb', osm, cellsL_one osm]
      have hB2 := st6r (x0 := .int .i64 xa) (x1 := .int .i64 xb) (x2 := .int .i64 xc) (x3 := .int .i64 nA) (x4 := mv) (x5 := .int .i64 nB) hB
      have hM_ : Mod [b6] wN4 ((((((wN4.setCell ⟨b6, 0, none⟩ (.int .i64 xa)).setCell ⟨b6, 1, none⟩ (.int .i64 xb)).setCell ⟨b6, 2, none⟩ (.int .i64 xc)).setCell ⟨b6, 3, none⟩ (.int .i64 nA)).setCell ⟨b6, 4, none⟩ (mv)).setCell ⟨b6, 5, none⟩ (.int .i64 nB)) := modSet6r (Mod.refl [b6] _) (.inl (by simp))
      generalize ((((((wN4.setCell ⟨b6, 0, none⟩ (.int .i64 xa)).setCell ⟨b6, 1, none⟩ (.int .i64 xb)).setCell ⟨b6, 2, none⟩ (.int .i64 xc)).setCell ⟨b6, 3, none⟩ (.int .i64 nA)).setCell ⟨b6, 4, none⟩ (mv)).setCell ⟨b6, 5, none⟩ (.int .i64 nB)) = wB at hB2 hM_ ⊢
      clear hB cb xb'
      replace hZ := hM_.get hZ (by simp; omega)
      replace hM0 := hM0.trans hM_ (by simp; omega)
      replace hq := hM_.get hq (by simp; omega)
      replace hX := hM_.get hX (by simp; omega)
      replace hO := ownsRow_mod' hO hM_ (fun g hg => by have := hgB g hg; simp; omega)
      have hB := hB2
      clear hB2 hM_
      refine hold_stop (s' := none) ?_
      refine hold_code okT (rs := [.cell 2 26, .tmp 3]) rfl ?_
      simp only [Bool.true_and] at hq
      have cq := fun o => cellOf (o := o) hq
      have cB := fun o => cellOf (o := o) hB
      cases hnn : (na && nb)
      · rw [hnn] at hOk cq
        simp only [Bool.false_and, Bool.and_false] at hOk
        have zc := fun o => cellOf (o := o) hZ
        have zx := fun o => frozenOf (o := o) hZ
        simp (maxSteps := 1000000) (disch := first | omega | (simp only [sizeAlloc, sizeDrew, sizeSet, sizePut] <;> omega) | fail) only [GS, TT_eq, TTl, Nat.reduceAdd, Nat.reduceMul, Nat.reduceSub, Nat.reduceDiv, Nat.reduceMod, Nat.reducePow, Nat.reduceEqDiff, ↓reduceIte, reduceCtorEq, Int.reduceToNat, Int.reduceAdd, Int.reduceSub, Int.reduceMul, zc, zx, cq, cB, osm, cellsL_one osm]
        refine load6r (st6r hZ) ?_
        exact hno hOk _ (modSet6r hM0 (.inr hge))
      rw [hnn] at hOk cq
      cases tb
      · skip
        simp only [Bool.true_and] at hOk
        simp only [Bool.false_and, Bool.and_false] at hOk
        have zc := fun o => cellOf (o := o) hZ
        have zx := fun o => frozenOf (o := o) hZ
        simp (maxSteps := 1000000) (disch := first | omega | (simp only [sizeAlloc, sizeDrew, sizeSet, sizePut] <;> omega) | fail) only [GS, TT_eq, TTl, Nat.reduceAdd, Nat.reduceMul, Nat.reduceSub, Nat.reduceDiv, Nat.reduceMod, Nat.reducePow, Nat.reduceEqDiff, ↓reduceIte, reduceCtorEq, Int.reduceToNat, Int.reduceAdd, Int.reduceSub, Int.reduceMul, zc, zx, cq, cB, osm, cellsL_one osm]
        refine load6r (st6r hZ) ?_
        exact hno hOk _ (modSet6r hM0 (.inr hge))
      cases md
      · skip
        simp only [Bool.true_and] at hOk
        simp only [Bool.false_and, Bool.and_false] at hOk
        have zc := fun o => cellOf (o := o) hZ
        have zx := fun o => frozenOf (o := o) hZ
        simp (maxSteps := 1000000) (disch := first | omega | (simp only [sizeAlloc, sizeDrew, sizeSet, sizePut] <;> omega) | fail) only [GS, TT_eq, TTl, Nat.reduceAdd, Nat.reduceMul, Nat.reduceSub, Nat.reduceDiv, Nat.reduceMod, Nat.reducePow, Nat.reduceEqDiff, ↓reduceIte, reduceCtorEq, Int.reduceToNat, Int.reduceAdd, Int.reduceSub, Int.reduceMul, zc, zx, cq, cB, osm, cellsL_one osm]
        refine load6r (st6r hZ) ?_
        exact hno hOk _ (modSet6r hM0 (.inr hge))
      simp only [Bool.true_and] at hOk
      simp (maxSteps := 1000000) (disch := first | omega | (simp only [sizeAlloc, sizeDrew, sizeSet, sizePut] <;> omega) | fail) only [GS, TT_eq, TTl, Nat.reduceAdd, Nat.reduceMul, Nat.reduceSub, Nat.reduceDiv, Nat.reduceMod, Nat.reducePow, Nat.reduceEqDiff, ↓reduceIte, reduceCtorEq, Int.reduceToNat, Int.reduceAdd, Int.reduceSub, Int.reduceMul, cq, cB, osm, cellsL_one osm]
      refine ⟨fok31, hCk _ (Rd.own hO) _ fun wE hM_ => .inl ⟨_, rfl, hold_ops okT (rs := [.cell 2 26, .tmp 3]) rfl ?_⟩⟩
      replace hZ := hM_.get hZ (by simp)
      replace hM0 := hM0.trans hM_ (by simp)
      replace hq := hM_.get hq (by simp)
      replace hX := hM_.get hX (by simp)
      replace hO := ownsRow_mod hO hM_ (by simp)
      replace hB := hM_.get hB (by simp)
      generalize balB (xa, xb, xc) nA mm nB = bb at *
      cases bb
      · simp only [Bool.false_eq_true, if_false]
        have zc := fun o => cellOf (o := o) hZ
        have zx := fun o => frozenOf (o := o) hZ
        simp (maxSteps := 1000000) (disch := first | omega | (simp only [sizeAlloc, sizeDrew, sizeSet, sizePut] <;> omega) | fail) only [GS, TT_eq, TTl, Nat.reduceAdd, Nat.reduceMul, Nat.reduceSub, Nat.reduceDiv, Nat.reduceMod, Nat.reducePow, Nat.reduceEqDiff, ↓reduceIte, reduceCtorEq, Int.reduceToNat, Int.reduceAdd, Int.reduceSub, Int.reduceMul, zc, zx]
        refine load6r (st6r hZ) ?_
        exact hno hOk _ (modSet6r hM0 (.inr hge))
      simp only [if_true]
      have cB := fun o => cellOf (o := o) hB
      have zx := fun o => frozenOf (o := o) hZ
      have zc := fun o => cellOf (o := o) hZ
      simp (maxSteps := 1000000) (disch := first | omega | (simp only [sizeAlloc, sizeDrew, sizeSet, sizePut] <;> omega) | fail) only [GS, TT_eq, TTl, Nat.reduceAdd, Nat.reduceMul, Nat.reduceSub, Nat.reduceDiv, Nat.reduceMod, Nat.reducePow, Nat.reduceEqDiff, ↓reduceIte, reduceCtorEq, Int.reduceToNat, Int.reduceAdd, Int.reduceSub, Int.reduceMul, cB, zx, zc, osm, cellsL_one osm]
      refine load6r (st6r hZ) ?_
      exact hyes hOk _ (ownsRow_base (base' := n) (ownsRow_mod (S := [n]) hO (modSet6r (F := [n]) (p := n) (x0 := .int .i64 xa) (x1 := .int .i64 xb) (x2 := .int .i64 xc) (x3 := .int .i64 nA) (x4 := mv) (x5 := .int .i64 nB) (Mod.refl [n] wE) (.inl (by simp))) (by simp; omega)) (by omega)) (modSet6r hM0 (.inr hge))
  · refine ht_eff okT rfl rfl (v := .pointer (some ⟨w9.heap.size, 0, none⟩)) (w' := w9.alloc (.cells #[.int .i64 0, .int .i64 0, .int .i64 0, .int .i64 0, .slice none 0 0, .int .i64 0] 26)) (by simp (maxSteps := 1000000) only [GS, TT_eq, TTl, Nat.reduceAdd, Nat.reduceMul, Nat.reduceSub, Nat.reduceDiv, Nat.reduceMod, Nat.reducePow, Nat.reduceEqDiff, ↓reduceIte, reduceCtorEq, Int.reduceToNat, Int.reduceAdd, Int.reduceSub, Int.reduceMul]) ?_ ?_ ht_stop
    all_goals have hM_ := (Mod.refl [] w9).alloc (.cells #[.int .i64 0, .int .i64 0, .int .i64 0, .int .i64 0, .slice none 0 0, .int .i64 0] 26)
    all_goals have hB := heapNew (w := w9) (o := (.cells #[.int .i64 0, .int .i64 0, .int .i64 0, .int .i64 0, .slice none 0 0, .int .i64 0] 26))
    all_goals generalize w9.alloc (.cells #[.int .i64 0, .int .i64 0, .int .i64 0, .int .i64 0, .slice none 0 0, .int .i64 0] 26) = wA at hM_ hB ⊢
    · simp (maxSteps := 1000000) only [GS, TT_eq, TTl, Nat.reduceAdd, Nat.reduceMul, Nat.reduceSub, Nat.reduceDiv, Nat.reduceMod, Nat.reducePow, Nat.reduceEqDiff, ↓reduceIte, reduceCtorEq, Int.reduceToNat, Int.reduceAdd, Int.reduceSub, Int.reduceMul]
      have hX := hM_.get hX (by simp)
      have f2 := cellMS13 f2 hM_ (by simp)
      have f4 := cellMS13 f4 hM_ (by simp)
      repeat' (first | exact hag _ hX | exact f2 | exact f4 | apply And.intro)
    have hqB : q < w9.heap.size := (Array.getElem?_eq_some_iff.1 hq).1
    have hnB : n < w9.heap.size := (Array.getElem?_eq_some_iff.1 hZ).1
    have hwB : w.heap.size ≤ w9.heap.size := hM0.size
    have hxB : qx < w9.heap.size := (Array.getElem?_eq_some_iff.1 hX).1
    have hgB : ∀ g, mv.ownBlock = some g → g < w9.heap.size := fun g hg => (hO.lt g hg).2
    replace hZ := hM_.get hZ (by simp)
    replace hM0 := hM0.trans hM_ (by simp)
    replace f2 := cellMS13 f2 hM_ (by simp)
    replace f4 := cellMS13 f4 hM_ (by simp)
    replace hq := hM_.get hq (by simp)
    replace hX := hM_.get hX (by simp)
    replace hO := ownsRow_mod hO hM_ (by simp)
    clear hM_
    generalize w9.heap.size = b6 at *
    simp (maxSteps := 1000000) only [GS, TT_eq, TTl, Nat.reduceAdd, Nat.reduceMul, Nat.reduceSub, Nat.reduceDiv, Nat.reduceMod, Nat.reducePow, Nat.reduceEqDiff, ↓reduceIte, reduceCtorEq, Int.reduceToNat, Int.reduceAdd, Int.reduceSub, Int.reduceMul]
    refine ht_lin rfl (hold_stop (s' := some 12) (hold_dops okT (rs := [.cell 2 26, .tmp 3]) rfl ?_))
    simp (maxSteps := 1000000) (disch := first | omega | (simp only [sizeAlloc, sizeDrew, sizeSet, sizePut] <;> omega) | fail) only [GS, TT_eq, TTl, Nat.reduceAdd, Nat.reduceMul, Nat.reduceSub, Nat.reduceDiv, Nat.reduceMod, Nat.reducePow, Nat.reduceEqDiff, ↓reduceIte, reduceCtorEq, Int.reduceToNat, Int.reduceAdd, Int.reduceSub, Int.reduceMul]
    refine ⟨fok79, hN2 true _ hq _ fun wN2 hq1 hM_ => .inl ⟨_, rfl, ?_⟩⟩
    first | refine ⟨(by have hX := hM_.get hX (by simp; omega); have f2 := cellMS13 f2 hM_ (by simp; omega); have f4 := cellMS13 f4 hM_ (by simp; omega); repeat' (first | exact hag _ hX | exact f2 | exact f4 | apply And.intro)), hold_dops okT (rs := [.cell 2 26, .tmp 3]) rfl ?_⟩ | refine hold_dops okT (rs := [.cell 2 26, .tmp 3]) rfl ?_
    replace hZ := hM_.get hZ (by simp; omega)
    replace hM0 := hM0.trans hM_ (by simp; omega)
    replace f2 := cellMS13 f2 hM_ (by simp; omega)
    replace f4 := cellMS13 f4 hM_ (by simp; omega)
    replace hX := hM_.get hX (by simp; omega)
    replace hO := ownsRow_mod hO hM_ (by simp; omega)
    replace hB := hM_.get hB (by simp; omega)
    replace hq := hq1
    clear hq1 hM_
    simp (maxSteps := 1000000) (disch := first | omega | (simp only [sizeAlloc, sizeDrew, sizeSet, sizePut] <;> omega) | fail) only [GS, TT_eq, TTl, Nat.reduceAdd, Nat.reduceMul, Nat.reduceSub, Nat.reduceDiv, Nat.reduceMod, Nat.reducePow, Nat.reduceEqDiff, ↓reduceIte, reduceCtorEq, Int.reduceToNat, Int.reduceAdd, Int.reduceSub, Int.reduceMul]
    refine ⟨fok79, hN4 (true && na) _ hq _ fun wN4 hq1 hM_ => .inl ⟨_, rfl, ?_⟩⟩
    first | refine ⟨(by have hX := hM_.get hX (by simp; omega); have f2 := cellMS13 f2 hM_ (by simp; omega); have f4 := cellMS13 f4 hM_ (by simp; omega); repeat' (first | exact hag _ hX | exact f2 | exact f4 | apply And.intro)), hold_dops okT (rs := [.cell 2 26, .tmp 3]) rfl ?_⟩ | refine hold_dops okT (rs := [.cell 2 26, .tmp 3]) rfl ?_
    replace hZ := hM_.get hZ (by simp; omega)
    replace hM0 := hM0.trans hM_ (by simp; omega)
    replace f2 := cellMS13 f2 hM_ (by simp; omega)
    replace f4 := cellMS13 f4 hM_ (by simp; omega)
    replace hX := hM_.get hX (by simp; omega)
    replace hO := ownsRow_mod hO hM_ (by simp; omega)
    replace hB := hM_.get hB (by simp; omega)
    replace hq := hq1
    clear hq1 hM_
    have cb := fun o => cellOf (o := o) hB
    have xb' := fun o => frozenOf (o := o) hB
    simp (maxSteps := 1000000) (disch := first | omega | (simp only [sizeAlloc, sizeDrew, sizeSet, sizePut] <;> omega) | fail) only [GS, TT_eq, TTl, Nat.reduceAdd, Nat.reduceMul, Nat.reduceSub, Nat.reduceDiv, Nat.reduceMod, Nat.reducePow, Nat.reduceEqDiff, ↓reduceIte, reduceCtorEq, Int.reduceToNat, Int.reduceAdd, Int.reduceSub, Int.reduceMul, cb, xb', osm, cellsL_one osm]
    have hB2 := st6r (x0 := .int .i64 xa) (x1 := .int .i64 xb) (x2 := .int .i64 xc) (x3 := .int .i64 nA) (x4 := mv) (x5 := .int .i64 nB) hB
    have hM_ : Mod [b6] wN4 ((((((wN4.setCell ⟨b6, 0, none⟩ (.int .i64 xa)).setCell ⟨b6, 1, none⟩ (.int .i64 xb)).setCell ⟨b6, 2, none⟩ (.int .i64 xc)).setCell ⟨b6, 3, none⟩ (.int .i64 nA)).setCell ⟨b6, 4, none⟩ (mv)).setCell ⟨b6, 5, none⟩ (.int .i64 nB)) := modSet6r (Mod.refl [b6] _) (.inl (by simp))
    generalize ((((((wN4.setCell ⟨b6, 0, none⟩ (.int .i64 xa)).setCell ⟨b6, 1, none⟩ (.int .i64 xb)).setCell ⟨b6, 2, none⟩ (.int .i64 xc)).setCell ⟨b6, 3, none⟩ (.int .i64 nA)).setCell ⟨b6, 4, none⟩ (mv)).setCell ⟨b6, 5, none⟩ (.int .i64 nB)) = wB at hB2 hM_ ⊢
    clear hB cb xb'
    replace hZ := hM_.get hZ (by simp; omega)
    replace hM0 := hM0.trans hM_ (by simp; omega)
    replace hq := hM_.get hq (by simp; omega)
    replace hX := hM_.get hX (by simp; omega)
    replace hO := ownsRow_mod' hO hM_ (fun g hg => by have := hgB g hg; simp; omega)
    have hB := hB2
    clear hB2 hM_
    refine hold_stop (s' := none) ?_
    refine hold_code okT (rs := [.cell 2 26, .tmp 3]) rfl ?_
    simp only [Bool.true_and] at hq
    have cq := fun o => cellOf (o := o) hq
    have cB := fun o => cellOf (o := o) hB
    cases hnn : (na && nb)
    · rw [hnn] at hOk cq
      simp only [Bool.false_and, Bool.and_false] at hOk
      have zc := fun o => cellOf (o := o) hZ
      have zx := fun o => frozenOf (o := o) hZ
      simp (maxSteps := 1000000) (disch := first | omega | (simp only [sizeAlloc, sizeDrew, sizeSet, sizePut] <;> omega) | fail) only [GS, TT_eq, TTl, Nat.reduceAdd, Nat.reduceMul, Nat.reduceSub, Nat.reduceDiv, Nat.reduceMod, Nat.reducePow, Nat.reduceEqDiff, ↓reduceIte, reduceCtorEq, Int.reduceToNat, Int.reduceAdd, Int.reduceSub, Int.reduceMul, zc, zx, cq, cB, osm, cellsL_one osm]
      refine load6r (st6r hZ) ?_
      exact hno hOk _ (modSet6r hM0 (.inr hge))
    rw [hnn] at hOk cq
    cases tb
    · skip
      simp only [Bool.true_and] at hOk
      simp only [Bool.false_and, Bool.and_false] at hOk
      have zc := fun o => cellOf (o := o) hZ
      have zx := fun o => frozenOf (o := o) hZ
      simp (maxSteps := 1000000) (disch := first | omega | (simp only [sizeAlloc, sizeDrew, sizeSet, sizePut] <;> omega) | fail) only [GS, TT_eq, TTl, Nat.reduceAdd, Nat.reduceMul, Nat.reduceSub, Nat.reduceDiv, Nat.reduceMod, Nat.reducePow, Nat.reduceEqDiff, ↓reduceIte, reduceCtorEq, Int.reduceToNat, Int.reduceAdd, Int.reduceSub, Int.reduceMul, zc, zx, cq, cB, osm, cellsL_one osm]
      refine load6r (st6r hZ) ?_
      exact hno hOk _ (modSet6r hM0 (.inr hge))
    cases md
    · skip
      simp only [Bool.true_and] at hOk
      simp only [Bool.false_and, Bool.and_false] at hOk
      have zc := fun o => cellOf (o := o) hZ
      have zx := fun o => frozenOf (o := o) hZ
      simp (maxSteps := 1000000) (disch := first | omega | (simp only [sizeAlloc, sizeDrew, sizeSet, sizePut] <;> omega) | fail) only [GS, TT_eq, TTl, Nat.reduceAdd, Nat.reduceMul, Nat.reduceSub, Nat.reduceDiv, Nat.reduceMod, Nat.reducePow, Nat.reduceEqDiff, ↓reduceIte, reduceCtorEq, Int.reduceToNat, Int.reduceAdd, Int.reduceSub, Int.reduceMul, zc, zx, cq, cB, osm, cellsL_one osm]
      refine load6r (st6r hZ) ?_
      exact hno hOk _ (modSet6r hM0 (.inr hge))
    simp only [Bool.true_and] at hOk
    simp (maxSteps := 1000000) (disch := first | omega | (simp only [sizeAlloc, sizeDrew, sizeSet, sizePut] <;> omega) | fail) only [GS, TT_eq, TTl, Nat.reduceAdd, Nat.reduceMul, Nat.reduceSub, Nat.reduceDiv, Nat.reduceMod, Nat.reducePow, Nat.reduceEqDiff, ↓reduceIte, reduceCtorEq, Int.reduceToNat, Int.reduceAdd, Int.reduceSub, Int.reduceMul, cq, cB, osm, cellsL_one osm]
    refine ⟨fok31, hCk _ (Rd.own hO) _ fun wE hM_ => .inl ⟨_, rfl, hold_ops okT (rs := [.cell 2 26, .tmp 3]) rfl ?_⟩⟩
    replace hZ := hM_.get hZ (by simp)
    replace hM0 := hM0.trans hM_ (by simp)
    replace hq := hM_.get hq (by simp)
    replace hX := hM_.get hX (by simp)
    replace hO := ownsRow_mod hO hM_ (by simp)
    replace hB := hM_.get hB (by simp)
    generalize balB (xa, xb, xc) nA mm nB = bb at *
    cases bb
    · simp only [Bool.false_eq_true, if_false]
      have zc := fun o => cellOf (o := o) hZ
      have zx := fun o => frozenOf (o := o) hZ
      simp (maxSteps := 1000000) (disch := first | omega | (simp only [sizeAlloc, sizeDrew, sizeSet, sizePut] <;> omega) | fail) only [GS, TT_eq, TTl, Nat.reduceAdd, Nat.reduceMul, Nat.reduceSub, Nat.reduceDiv, Nat.reduceMod, Nat.reducePow, Nat.reduceEqDiff, ↓reduceIte, reduceCtorEq, Int.reduceToNat, Int.reduceAdd, Int.reduceSub, Int.reduceMul, zc, zx]
      refine load6r (st6r hZ) ?_
      exact hno hOk _ (modSet6r hM0 (.inr hge))
    simp only [if_true]
    have cB := fun o => cellOf (o := o) hB
    have zx := fun o => frozenOf (o := o) hZ
    have zc := fun o => cellOf (o := o) hZ
    simp (maxSteps := 1000000) (disch := first | omega | (simp only [sizeAlloc, sizeDrew, sizeSet, sizePut] <;> omega) | fail) only [GS, TT_eq, TTl, Nat.reduceAdd, Nat.reduceMul, Nat.reduceSub, Nat.reduceDiv, Nat.reduceMod, Nat.reducePow, Nat.reduceEqDiff, ↓reduceIte, reduceCtorEq, Int.reduceToNat, Int.reduceAdd, Int.reduceSub, Int.reduceMul, cB, zx, zc, osm, cellsL_one osm]
    refine load6r (st6r hZ) ?_
    exact hyes hOk _ (ownsRow_base (base' := n) (ownsRow_mod (S := [n]) hO (modSet6r (F := [n]) (p := n) (x0 := .int .i64 xa) (x1 := .int .i64 xb) (x2 := .int .i64 xc) (x3 := .int .i64 nA) (x4 := mv) (x5 := .int .i64 nB) (Mod.refl [n] wE) (.inl (by simp))) (by simp; omega)) (by omega)) (modSet6r hM0 (.inr hge))
end Go.Proofs.YthnlmmkhehphiaaGreatDoor
