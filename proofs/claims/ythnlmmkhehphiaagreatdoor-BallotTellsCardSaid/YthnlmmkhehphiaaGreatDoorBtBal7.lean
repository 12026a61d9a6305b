/-
  BallotTells (walk).
-/
import Derived.Test.YthnlmmkhehphiaaGreatDoorBtBal6
import Derived.Test.YthnlmmkhehphiaaGreatDoorBtBal3
import Derived.Test.YthnlmmkhehphiaaGreatDoorBtB1
set_option linter.unusedSimpArgs false
set_option linter.unusedVariables false
set_option maxRecDepth 20000
namespace Go.Proofs.YthnlmmkhehphiaaGreatDoor
open Go Go.Wk Go.RowKit
attribute [local irreducible] go Hold
open Go.Lib
set_option maxRecDepth 20000 in
set_option maxHeartbeats 8000000 in
theorem bSame13_cps (x : Tx) (aud : Int) (o : Int) (l : List Mb) (v1 v2 : Value) (w : World) (hl : l.length ≤ 1000000) (ha : Rd w 2 v1 l.length (l.flatMap mbC)) (hb : Rd w 2 v2 l.length (l.flatMap mbC)) (R : Ending → World → Prop) (hR : ∀ w', Mod [] w w' → R (.returned (.bool true)) w') :
    Calls Tryz.prog 35 #[balV x aud v1 o, balV x aud v2 o] w R := by
  have os1 : v1.oneCell' = true := by obtain ⟨a, c, e⟩ := ha.slice; rw [e]; rfl
  have os2 : v2.oneCell' = true := by obtain ⟨a, c, e⟩ := hb.slice; rw [e]; rfl
  obtain ⟨xa, xb, xc⟩ := x
  unfold balV
  simp only
  refine calls_go 4000 okT Tryz.func35 rfl (rs := [.tmp 4]) rfl Tryz.ntmps35 (args := [.agg #[.int .i64 xa, .int .i64 xb, .int .i64 xc, .int .i64 aud, v1, .int .i64 o], .agg #[.int .i64 xa, .int .i64 xb, .int .i64 xc, .int .i64 aud, v2, .int .i64 o]]) ?_
  simp (maxSteps := 1000000) (disch := first | omega | (simp only [sizeAlloc, sizeDrew, sizeSet, sizePut] <;> omega) | fail) only [GS, TT_eq, TTl, Nat.reduceAdd, Nat.reduceMul, Nat.reduceSub, Nat.reduceDiv, Nat.reduceMod, Nat.reducePow, Nat.reduceEqDiff, ↓reduceIte, reduceCtorEq, Int.reduceToNat, Int.reduceAdd, Int.reduceSub, Int.reduceMul, eq_self, os1, os2, cellsL_one os1, cellsL_one os2]
  generalize hW : (w.alloc (.cells #[.int .i64 xa, .int .i64 xb, .int .i64 xc, .int .i64 aud, v1, .int .i64 o] 26)).alloc (.cells #[.int .i64 xa, .int .i64 xb, .int .i64 xc, .int .i64 aud, v2, .int .i64 o] 26) = w1
  have hM0 : Mod [] w w1 := by subst hW; exact ((Mod.refl [] w).alloc _).alloc _
  clear hW
  refine ⟨fok78, SameM_cps v1 v2 l l _ _ hl (ha.mod hM0 (by simp)) (hb.mod hM0 (by simp)) fun w2 hM2 => .inl ⟨_, rfl, hold_ops okT (rs := [.tmp 4]) rfl ?_⟩⟩
  rw [decide_eq_true (rfl : l = l)]
  simp (maxSteps := 1000000) (disch := first | omega | (simp only [sizeAlloc, sizeDrew, sizeSet, sizePut] <;> omega) | fail) only [GS, TT_eq, TTl, Nat.reduceAdd, Nat.reduceMul, Nat.reduceSub, Nat.reduceDiv, Nat.reduceMod, Nat.reducePow, Nat.reduceEqDiff, ↓reduceIte, reduceCtorEq, Int.reduceToNat, Int.reduceAdd, Int.reduceSub, Int.reduceMul]
  exact hR _ (hM0.trans hM2 (by simp))
theorem b13_self (b : Bool) : beq2 b b = true := by cases b <;> rfl
theorem outB_len (S : List UInt8) : (outB S).2.2.1.length ≤ 1000000 := by
  unfold outB
  split
  · unfold rdB
    simp only
    have := (unmb_get13 ((untxO ((partsS S).getD 1 [])).getD (0, 0, 0)).1 ((partsS S).getD 3 [])).1
    omega
  · simp
theorem longB_is13 {l : List Mb} (h : longB l = false) : l.length ≤ 20 ∧ ∀ x ∈ l, x.2.length ≤ 20000 := by
  unfold longB at h
  simp only [Bool.or_eq_false_iff] at h
  refine ⟨by have := of_decide_eq_false h.1; omega, fun x hx => ?_⟩
  have := List.any_eq_false.1 h.2 x hx
  simp only [decide_eq_true_eq] at this
  omega
set_option maxRecDepth 20000 in
set_option maxHeartbeats 64000000 in
theorem tells13_cps (x : Tx) (aud : Int) (ms : Value) (mbs : List Mb) (org : Int) (t : List UInt8) (w : World) (ht : t.length ≤ maxLen) (ha : MbsIn w ms mbs) (hg : KG w) (R : Ending → World → Prop) (hR : ∀ w', Mod [] w w' → R (.returned (.bool true)) w') :
    Calls Tryz.prog 6 #[balV x aud ms org, .string ⟨t.toArray⟩] w R := by
  have os : ms.oneCell' = true := by obtain ⟨a, c, e⟩ := ha.rd.slice; rw [e]; rfl
  obtain ⟨hrd, hlen, hdig, hmo⟩ := ha
  obtain ⟨a, b, c⟩ := x
  unfold balV
  simp only
  refine calls_go 4000 okT Tryz.func6 rfl (rs := [.tmp 4]) rfl Tryz.ntmps6 (args := [.agg #[.int .i64 a, .int .i64 b, .int .i64 c, .int .i64 aud, ms, .int .i64 org], .string ⟨t.toArray⟩]) ?_
  simp (maxSteps := 1000000) (disch := first | omega | (simp only [sizeAlloc, sizeDrew, sizeSet, sizePut] <;> omega) | fail) only [GS, TT_eq, TTl, Nat.reduceAdd, Nat.reduceMul, Nat.reduceSub, Nat.reduceDiv, Nat.reduceMod, Nat.reducePow, Nat.reduceEqDiff, ↓reduceIte, reduceCtorEq, Int.reduceToNat, Int.reduceAdd, Int.reduceSub, Int.reduceMul, os, cellsL_one os]
  generalize hW : w.alloc (.cells #[.int .i64 a, .int .i64 b, .int .i64 c, .int .i64 aud, ms, .int .i64 org] 26) = w1
  obtain ⟨bP, hM0⟩ := bx6 hW
  clear hW
  generalize hn : w.heap.size = n at *
  have hro : ∀ w', Mod [] w w' → Rd w' 2 ms mbs.length (mbs.flatMap mbC) := fun w' hM => hrd.mod hM (by simp)
  have hg0 := hg
  replace hrd := hrd.mod hM0 (by simp)
  replace hg := hg.mod hM0 (by simp)
  refine ⟨fok8, Long12_cps ms mbs _ _ (by omega) hdig hrd (.inl ⟨_, rfl, hold_stop (s' := some 4) (hold_ops okT (rs := [.tmp 4]) rfl ?_)⟩)⟩
  cases hl : longB mbs
  rotate_left
  · simp (maxSteps := 1000000) (disch := first | omega | (simp only [sizeAlloc, sizeDrew, sizeSet, sizePut] <;> omega) | fail) only [GS, TT_eq, TTl, Nat.reduceAdd, Nat.reduceMul, Nat.reduceSub, Nat.reduceDiv, Nat.reduceMod, Nat.reducePow, Nat.reduceEqDiff, ↓reduceIte, reduceCtorEq, Int.reduceToNat, Int.reduceAdd, Int.reduceSub, Int.reduceMul]
    refine ⟨fok9, alive13_cps _ hg _ fun w30 hM30 => .inl ⟨_, rfl, hold_ops okT (rs := [.tmp 4]) rfl ?_⟩⟩
    simp (maxSteps := 1000000) (disch := first | omega | (simp only [sizeAlloc, sizeDrew, sizeSet, sizePut] <;> omega) | fail) only [GS, TT_eq, TTl, Nat.reduceAdd, Nat.reduceMul, Nat.reduceSub, Nat.reduceDiv, Nat.reduceMod, Nat.reducePow, Nat.reduceEqDiff, ↓reduceIte, reduceCtorEq, Int.reduceToNat, Int.reduceAdd, Int.reduceSub, Int.reduceMul]
    exact hR _ (hM0.trans hM30 (by simp))
  by_cases hlt : (20000 : Int) < ((t.length : Nat) : Int)
  · simp (maxSteps := 1000000) (disch := first | omega | (simp only [sizeAlloc, sizeDrew, sizeSet, sizePut] <;> omega) | fail) only [GS, TT_eq, TTl, Nat.reduceAdd, Nat.reduceMul, Nat.reduceSub, Nat.reduceDiv, Nat.reduceMod, Nat.reducePow, Nat.reduceEqDiff, ↓reduceIte, reduceCtorEq, Int.reduceToNat, Int.reduceAdd, Int.reduceSub, Int.reduceMul, hlt]
    refine ⟨fok9, alive13_cps _ hg _ fun w30 hM30 => .inl ⟨_, rfl, hold_ops okT (rs := [.tmp 4]) rfl ?_⟩⟩
    simp (maxSteps := 1000000) (disch := first | omega | (simp only [sizeAlloc, sizeDrew, sizeSet, sizePut] <;> omega) | fail) only [GS, TT_eq, TTl, Nat.reduceAdd, Nat.reduceMul, Nat.reduceSub, Nat.reduceDiv, Nat.reduceMod, Nat.reducePow, Nat.reduceEqDiff, ↓reduceIte, reduceCtorEq, Int.reduceToNat, Int.reduceAdd, Int.reduceSub, Int.reduceMul]
    exact hR _ (hM0.trans hM30 (by simp))
  obtain ⟨hl20, hd20⟩ := longB_is13 hl
  have hl6 : mbs.length ≤ 1000000 := by omega
  have hBb := fun v w h => bBody_cps (a, b, c) aud v mbs org w hl6 hdig h
  have hBr := fun v w h => rBody_cps (a, b, c) aud v mbs org w hl6 hdig h
  have hCk := fun v w h => balCheck_cps (a, b, c) aud v mbs org w hl6 hdig h
  have hMy := fun v w h => balMay_cps (a, b, c) aud v mbs org w hl6 hdig h
  have hDb := fun v w h => bDig_cps (a, b, c) aud v mbs org w hl6 hdig h
  have hDr := fun v w h => rDig_cps (a, b, c) aud v mbs org w hl6 hdig h
  have hS0 := fun v1 v2 w h1 h2 => bSame13_cps (a, b, c) aud org mbs v1 v2 w hl6 h1 h2
  have hS1 := fun v1 v2 w h1 h2 => bSame13_cps (outB t).1 (outB t).2.1 (outB t).2.2.2 (outB t).2.2.1 v1 v2 w (outB_len t) h1 h2
  have hR1 := bRead_cps t (by unfold maxLen; omega)
  have hR2 := rRead13_cps t (by unfold maxLen; omega)
  have hbl := body_len (a, b, c) aud mbs org
  have hR3 := bRead_cps (bodyS (a, b, c) aud mbs org).1 (by unfold maxLen; omega)
  have hrdo := @rd_of (a, b, c) aud mbs org (bodyS (a, b, c) aud mbs org).1
  generalize isB t = IT at *
  generalize outB t = Q at *
  generalize isB (bodyS (a, b, c) aud mbs org).1 = IX at *
  generalize outB (bodyS (a, b, c) aud mbs org).1 = QX at *
  unfold balV at hBb hBr hCk hMy hDb hDr hS0 hS1 hR1 hR2 hR3
  unfold stV at hBb hBr
  simp only at hBb hBr hCk hMy hDb hDr hS0 hR1 hR2 hR3
  generalize digR (a, b, c) aud mbs org = DG at *
  generalize balB (a, b, c) aud mbs org = BB at *
  generalize bodyS (a, b, c) aud mbs org = BY at *
  obtain ⟨Y, E⟩ := BY
  simp only at hBb hBr hR3 hrdo hbl
  have c_bP := fun o => cellOf (o := o) bP
  simp (maxSteps := 1000000) (disch := first | omega | (simp only [sizeAlloc, sizeDrew, sizeSet, sizePut] <;> omega) | fail) only [GS, TT_eq, TTl, Nat.reduceAdd, Nat.reduceMul, Nat.reduceSub, Nat.reduceDiv, Nat.reduceMod, Nat.reducePow, Nat.reduceEqDiff, ↓reduceIte, reduceCtorEq, Int.reduceToNat, Int.reduceAdd, Int.reduceSub, Int.reduceMul, hlt, os, cellsL_one os, c_bP]
  generalize hW_ : (((((((w1.alloc (.cells #[.int .i64 0, .int .i64 0, .int .i64 0, .int .i64 0, .slice none 0 0, .int .i64 0] 26)).setCell ⟨w1.heap.size, 0, none⟩ (.int .i64 a)).setCell ⟨w1.heap.size, 1, none⟩ (.int .i64 b)).setCell ⟨w1.heap.size, 2, none⟩ (.int .i64 c)).setCell ⟨w1.heap.size, 3, none⟩ (.int .i64 aud)).setCell ⟨w1.heap.size, 4, none⟩ (ms)).setCell ⟨w1.heap.size, 5, none⟩ (.int .i64 org)) = u1
  obtain ⟨bO, hM_⟩ := box6r hW_
  clear hW_
  have hnO : n < w1.heap.size := (Array.getElem?_eq_some_iff.1 bP).1
  replace hM0 := hM0.trans hM_ (by simp)
  replace bP := hM_.get bP (by simp)
  replace hrd := hrd.mod hM_ (by simp)
  replace hg := hg.mod hM_ (by simp)
  generalize w1.heap.size = qo at *
  have hqo : qo < u1.heap.size := (Array.getElem?_eq_some_iff.1 bO).1
  refine hold_stop (s' := none) ?_
  refine hold_code okT (rs := [.tmp 4]) rfl ?_
  have c_bP := fun o => cellOf (o := o) bP
  simp (maxSteps := 1000000) (disch := first | omega | (simp only [sizeAlloc, sizeDrew, sizeSet, sizePut] <;> omega) | fail) only [GS, TT_eq, TTl, Nat.reduceAdd, Nat.reduceMul, Nat.reduceSub, Nat.reduceDiv, Nat.reduceMod, Nat.reducePow, Nat.reduceEqDiff, ↓reduceIte, reduceCtorEq, Int.reduceToNat, Int.reduceAdd, Int.reduceSub, Int.reduceMul, c_bP, os, cellsL_one os]
  refine hold_appendR okT rfl rfl rfl rfl (by decide) u1.heap.size (World.ownsRow_nil _ _ _ _) rfl rfl hrd (by intro u hu; obtain ⟨z, _, hz⟩ := List.mem_flatMap.1 hu; simp only [mbC, List.mem_cons, List.not_mem_nil, or_false] at hz; rcases hz with rfl | rfl <;> rfl) (by simp only; omega) (by unfold maxLen; omega) (Nat.le_refl _) fun sv w2 how hM_ => hold_stop (s' := some 5) (hold_ops okT (rs := [.tmp 4]) rfl ?_)
  have hM_ : Mod [] u1 w2 := hM_
  rw [List.nil_append, Nat.zero_add] at how
  replace hM0 := hM0.trans hM_ (by simp)
  replace bP := hM_.get bP (by simp)
  replace hrd := hrd.mod hM_ (by simp)
  replace hg := hg.mod hM_ (by simp)
  replace bO := hM_.get bO (by simp)
  have xA := fun o => frozenOf (o := o) bO
  have yA := fun o => cellOf (o := o) bO
  have hsv := ownsRow_one how
  simp (maxSteps := 1000000) (disch := first | omega | (simp only [sizeAlloc, sizeDrew, sizeSet, sizePut] <;> omega) | fail) only [GS, TT_eq, TTl, Nat.reduceAdd, Nat.reduceMul, Nat.reduceSub, Nat.reduceDiv, Nat.reduceMod, Nat.reducePow, Nat.reduceEqDiff, ↓reduceIte, reduceCtorEq, Int.reduceToNat, Int.reduceAdd, Int.reduceSub, Int.reduceMul, xA, yA, cellsL_one hsv, hsv]
  generalize hW_ : w2.setCell ⟨qo, 4, none⟩ sv = w3
  obtain ⟨bO', hMs⟩ : w3.heap[qo]? = some (.cells #[.int .i64 a, .int .i64 b, .int .i64 c, .int .i64 aud, sv, .int .i64 org] 26 (0, 0)) ∧ Mod [qo] w2 w3 := by
    subst hW_
    exact ⟨by rw [heapSet bO]; rfl, (Mod.refl [qo] w2).set (p := ⟨qo, 4, none⟩) (.inl (by simp)) sv⟩
  clear hW_ xA yA bO
  have bO := bO'
  clear bO'
  have hwo : w.heap.size ≤ qo := by omega
  replace bP := hMs.get bP (by simp; omega)
  replace hM0 := hM0.trans hMs (by simp; omega)
  replace how := ownsRow_mod how hMs (by simp; omega)
  replace hrd := hro _ hM0
  replace hg := hg0.mod hM0 (by simp)
  clear hMs
  refine hold_stop (s' := none) ?_
  refine hold_code okT (rs := [.tmp 4]) rfl ?_
  have c_bO := fun o => cellOf (o := o) bO
  have c_bP := fun o => cellOf (o := o) bP
  simp (maxSteps := 1000000) (disch := first | omega | (simp only [sizeAlloc, sizeDrew, sizeSet, sizePut] <;> omega) | fail) only [GS, TT_eq, TTl, Nat.reduceAdd, Nat.reduceMul, Nat.reduceSub, Nat.reduceDiv, Nat.reduceMod, Nat.reducePow, Nat.reduceEqDiff, ↓reduceIte, reduceCtorEq, Int.reduceToNat, Int.reduceAdd, Int.reduceSub, Int.reduceMul, hsv, cellsL_one hsv, os, cellsL_one os, c_bO, c_bP]
  refine ⟨fok29, hBb _ _ (Rd.own how) _ fun  u2 hM_ => .inl ⟨_, rfl, hold_ops okT (rs := [.tmp 4]) rfl ?_⟩⟩
  replace hM0 := hM0.trans hM_ (by simp)
  replace bP := hM_.get bP (by simp)
  replace hrd := hrd.mod hM_ (by simp)
  replace hg := hg.mod hM_ (by simp)
  replace bO := hM_.get bO (by simp)
  replace how := ownsRow_mod how hM_ (by simp)
  have c_bO := fun o => cellOf (o := o) bO
  have c_bP := fun o => cellOf (o := o) bP
  simp (maxSteps := 1000000) (disch := first | omega | (simp only [sizeAlloc, sizeDrew, sizeSet, sizePut] <;> omega) | fail) only [GS, TT_eq, TTl, Nat.reduceAdd, Nat.reduceMul, Nat.reduceSub, Nat.reduceDiv, Nat.reduceMod, Nat.reducePow, Nat.reduceEqDiff, ↓reduceIte, reduceCtorEq, Int.reduceToNat, Int.reduceAdd, Int.reduceSub, Int.reduceMul, hsv, cellsL_one hsv, os, cellsL_one os, c_bO, c_bP]
  refine ⟨fok30, hBr _ _ hrd _ fun  u3 hM_ => .inl ⟨_, rfl, hold_ops okT (rs := [.tmp 4]) rfl ?_⟩⟩
  replace hM0 := hM0.trans hM_ (by simp)
  replace bP := hM_.get bP (by simp)
  replace hrd := hrd.mod hM_ (by simp)
  replace hg := hg.mod hM_ (by simp)
  replace bO := hM_.get bO (by simp)
  replace how := ownsRow_mod how hM_ (by simp)
  have c_bO := fun o => cellOf (o := o) bO
  have c_bP := fun o => cellOf (o := o) bP
  simp (maxSteps := 1000000) (disch := first | omega | (simp only [sizeAlloc, sizeDrew, sizeSet, sizePut] <;> omega) | fail) only [GS, TT_eq, TTl, Nat.reduceAdd, Nat.reduceMul, Nat.reduceSub, Nat.reduceDiv, Nat.reduceMod, Nat.reducePow, Nat.reduceEqDiff, ↓reduceIte, reduceCtorEq, Int.reduceToNat, Int.reduceAdd, Int.reduceSub, Int.reduceMul, hsv, cellsL_one hsv, os, cellsL_one os, c_bO, c_bP]
  refine ⟨fok31, hCk _ _ (Rd.own how) _ fun  u4 hM_ => .inl ⟨_, rfl, hold_ops okT (rs := [.tmp 4]) rfl ?_⟩⟩
  replace hM0 := hM0.trans hM_ (by simp)
  replace bP := hM_.get bP (by simp)
  replace hrd := hrd.mod hM_ (by simp)
  replace hg := hg.mod hM_ (by simp)
  replace bO := hM_.get bO (by simp)
  replace how := ownsRow_mod how hM_ (by simp)
  have c_bO := fun o => cellOf (o := o) bO
  have c_bP := fun o => cellOf (o := o) bP
  simp (maxSteps := 1000000) (disch := first | omega | (simp only [sizeAlloc, sizeDrew, sizeSet, sizePut] <;> omega) | fail) only [GS, TT_eq, TTl, Nat.reduceAdd, Nat.reduceMul, Nat.reduceSub, Nat.reduceDiv, Nat.reduceMod, Nat.reducePow, Nat.reduceEqDiff, ↓reduceIte, reduceCtorEq, Int.reduceToNat, Int.reduceAdd, Int.reduceSub, Int.reduceMul, hsv, cellsL_one hsv, os, cellsL_one os, c_bO, c_bP]
  refine ⟨fok32, hDb _ _ (Rd.own how) _ fun  u5 hM_ => .inl ⟨_, rfl, hold_ops okT (rs := [.tmp 4]) rfl ?_⟩⟩
  replace hM0 := hM0.trans hM_ (by simp)
  replace bP := hM_.get bP (by simp)
  replace hrd := hrd.mod hM_ (by simp)
  replace hg := hg.mod hM_ (by simp)
  replace bO := hM_.get bO (by simp)
  replace how := ownsRow_mod how hM_ (by simp)
  have c_bO := fun o => cellOf (o := o) bO
  have c_bP := fun o => cellOf (o := o) bP
  simp (maxSteps := 1000000) (disch := first | omega | (simp only [sizeAlloc, sizeDrew, sizeSet, sizePut] <;> omega) | fail) only [GS, TT_eq, TTl, Nat.reduceAdd, Nat.reduceMul, Nat.reduceSub, Nat.reduceDiv, Nat.reduceMod, Nat.reducePow, Nat.reduceEqDiff, ↓reduceIte, reduceCtorEq, Int.reduceToNat, Int.reduceAdd, Int.reduceSub, Int.reduceMul, hsv, cellsL_one hsv, os, cellsL_one os, c_bO, c_bP]
  refine ⟨fok33, hDr _ _ hrd _ fun  u6 hM_ => .inl ⟨_, rfl, hold_ops okT (rs := [.tmp 4]) rfl ?_⟩⟩
  replace hM0 := hM0.trans hM_ (by simp)
  replace bP := hM_.get bP (by simp)
  replace hrd := hrd.mod hM_ (by simp)
  replace hg := hg.mod hM_ (by simp)
  replace bO := hM_.get bO (by simp)
  replace how := ownsRow_mod how hM_ (by simp)
  have c_bO := fun o => cellOf (o := o) bO
  have c_bP := fun o => cellOf (o := o) bP
  simp (maxSteps := 1000000) (disch := first | omega | (simp only [sizeAlloc, sizeDrew, sizeSet, sizePut] <;> omega) | fail) only [GS, TT_eq, TTl, Nat.reduceAdd, Nat.reduceMul, Nat.reduceSub, Nat.reduceDiv, Nat.reduceMod, Nat.reducePow, Nat.reduceEqDiff, ↓reduceIte, reduceCtorEq, Int.reduceToNat, Int.reduceAdd, Int.reduceSub, Int.reduceMul, hsv, cellsL_one hsv, os, cellsL_one os, eq_self, b13_self, c_bO, c_bP]
  refine ⟨fok34, hMy _ _ hrd _ fun  u7 hM_ => .inl ⟨_, rfl, hold_ops okT (rs := [.tmp 4]) rfl ?_⟩⟩
  replace hM0 := hM0.trans hM_ (by simp)
  replace bP := hM_.get bP (by simp)
  replace hrd := hrd.mod hM_ (by simp)
  replace hg := hg.mod hM_ (by simp)
  replace bO := hM_.get bO (by simp)
  replace how := ownsRow_mod how hM_ (by simp)
  cases BB
  · simp only [Bool.false_eq_true, if_false, if_true]
    have c_bO := fun o => cellOf (o := o) bO
    have c_bP := fun o => cellOf (o := o) bP
    simp (maxSteps := 1000000) (disch := first | omega | (simp only [sizeAlloc, sizeDrew, sizeSet, sizePut] <;> omega) | fail) only [GS, TT_eq, TTl, Nat.reduceAdd, Nat.reduceMul, Nat.reduceSub, Nat.reduceDiv, Nat.reduceMod, Nat.reducePow, Nat.reduceEqDiff, ↓reduceIte, reduceCtorEq, Int.reduceToNat, Int.reduceAdd, Int.reduceSub, Int.reduceMul, hsv, cellsL_one hsv, os, cellsL_one os, eq_self, b13_self, c_bO, c_bP]
    refine ⟨fok35, hS0 _ _ _ (Rd.own how) hrd _ fun  u8 hM_ => .inl ⟨_, rfl, hold_ops okT (rs := [.tmp 4]) rfl ?_⟩⟩
    replace hM0 := hM0.trans hM_ (by simp)
    replace bP := hM_.get bP (by simp)
    replace hrd := hrd.mod hM_ (by simp)
    replace hg := hg.mod hM_ (by simp)
    replace bO := hM_.get bO (by simp)
    replace how := ownsRow_mod how hM_ (by simp)
    simp (maxSteps := 1000000) (disch := first | omega | (simp only [sizeAlloc, sizeDrew, sizeSet, sizePut] <;> omega) | fail) only [GS, TT_eq, TTl, Nat.reduceAdd, Nat.reduceMul, Nat.reduceSub, Nat.reduceDiv, Nat.reduceMod, Nat.reducePow, Nat.reduceEqDiff, ↓reduceIte, reduceCtorEq, Int.reduceToNat, Int.reduceAdd, Int.reduceSub, Int.reduceMul, hsv, cellsL_one hsv, os, cellsL_one os]
    refine ⟨fok36, hR1 _ _ fun cp u9 oP hM_ => .inl ⟨_, rfl, hold_stop (s' := some 13) (hold_ops okT (rs := [.tmp 4]) rfl ?_)⟩⟩
    replace hM0 := hM0.trans hM_ (by simp)
    replace bP := hM_.get bP (by simp)
    replace hrd := hrd.mod hM_ (by simp)
    replace hg := hg.mod hM_ (by simp)
    replace bO := hM_.get bO (by simp)
    replace how := ownsRow_mod how hM_ (by simp)
    have op := ownsRow_one oP
    have hwp : w.heap.size ≤ u9.heap.size := hM0.size
    have hnp : n < u9.heap.size := (Array.getElem?_eq_some_iff.1 bP).1
    simp (maxSteps := 1000000) (disch := first | omega | (simp only [sizeAlloc, sizeDrew, sizeSet, sizePut] <;> omega) | fail) only [GS, TT_eq, TTl, Nat.reduceAdd, Nat.reduceMul, Nat.reduceSub, Nat.reduceDiv, Nat.reduceMod, Nat.reducePow, Nat.reduceEqDiff, ↓reduceIte, reduceCtorEq, Int.reduceToNat, Int.reduceAdd, Int.reduceSub, Int.reduceMul, hsv, cellsL_one hsv, os, cellsL_one os, op, cellsL_one op]
    generalize hW_ : (((((((u9.alloc (.cells #[.int .i64 0, .int .i64 0, .int .i64 0, .int .i64 0, .slice none 0 0, .int .i64 0] 26)).setCell ⟨u9.heap.size, 0, none⟩ (.int .i64 Q.1.1)).setCell ⟨u9.heap.size, 1, none⟩ (.int .i64 Q.1.2.1)).setCell ⟨u9.heap.size, 2, none⟩ (.int .i64 Q.1.2.2)).setCell ⟨u9.heap.size, 3, none⟩ (.int .i64 Q.2.1)).setCell ⟨u9.heap.size, 4, none⟩ (cp)).setCell ⟨u9.heap.size, 5, none⟩ (.int .i64 Q.2.2.2)) = u10
    obtain ⟨bQ, hM_⟩ : u10.heap[u9.heap.size]? = some (.cells #[.int .i64 Q.1.1, .int .i64 Q.1.2.1, .int .i64 Q.1.2.2, .int .i64 Q.2.1, cp, .int .i64 Q.2.2.2] 26 (0, 0)) ∧ Mod [] u9 u10 := by
      subst hW_
      exact ⟨st6z heapNew, modSet6z ((Mod.refl [] u9).alloc _) (.inr (Nat.le_refl _))⟩
    clear hW_
    replace hM0 := hM0.trans hM_ (by simp)
    replace bP := hM_.get bP (by simp)
    replace hrd := hrd.mod hM_ (by simp)
    replace hg := hg.mod hM_ (by simp)
    replace bO := hM_.get bO (by simp)
    replace how := ownsRow_mod how hM_ (by simp)
    replace oP := ownsRow_mod oP hM_ (by simp)
    generalize u9.heap.size = qp at *
    refine hold_stop (s' := none) ?_
    refine hold_code okT (rs := [.tmp 4]) rfl ?_
    simp (maxSteps := 1000000) (disch := first | omega | (simp only [sizeAlloc, sizeDrew, sizeSet, sizePut] <;> omega) | fail) only [GS, TT_eq, TTl, Nat.reduceAdd, Nat.reduceMul, Nat.reduceSub, Nat.reduceDiv, Nat.reduceMod, Nat.reducePow, Nat.reduceEqDiff, ↓reduceIte, reduceCtorEq, Int.reduceToNat, Int.reduceAdd, Int.reduceSub, Int.reduceMul, hsv, cellsL_one hsv, os, cellsL_one os]
    refine ⟨fok37, hR2 _ _ fun cq u11 oQ hM_ => .inl ⟨_, rfl, hold_stop (s' := some 14) (hold_ops okT (rs := [.tmp 4]) rfl ?_)⟩⟩
    replace hM0 := hM0.trans hM_ (by simp)
    replace bP := hM_.get bP (by simp)
    replace hrd := hrd.mod hM_ (by simp)
    replace hg := hg.mod hM_ (by simp)
    replace bO := hM_.get bO (by simp)
    replace how := ownsRow_mod how hM_ (by simp)
    replace oP := ownsRow_mod oP hM_ (by simp)
    replace bQ := hM_.get bQ (by simp)
    have oq := ownsRow_one oQ
    simp (maxSteps := 1000000) (disch := first | omega | (simp only [sizeAlloc, sizeDrew, sizeSet, sizePut] <;> omega) | fail) only [GS, TT_eq, TTl, Nat.reduceAdd, Nat.reduceMul, Nat.reduceSub, Nat.reduceDiv, Nat.reduceMod, Nat.reducePow, Nat.reduceEqDiff, ↓reduceIte, reduceCtorEq, Int.reduceToNat, Int.reduceAdd, Int.reduceSub, Int.reduceMul, hsv, cellsL_one hsv, os, cellsL_one os, oq, cellsL_one oq]
    generalize hW_ : (((((((u11.alloc (.cells #[.int .i64 0, .int .i64 0, .int .i64 0, .int .i64 0, .slice none 0 0, .int .i64 0] 26)).setCell ⟨u11.heap.size, 0, none⟩ (.int .i64 Q.1.1)).setCell ⟨u11.heap.size, 1, none⟩ (.int .i64 Q.1.2.1)).setCell ⟨u11.heap.size, 2, none⟩ (.int .i64 Q.1.2.2)).setCell ⟨u11.heap.size, 3, none⟩ (.int .i64 Q.2.1)).setCell ⟨u11.heap.size, 4, none⟩ (cq)).setCell ⟨u11.heap.size, 5, none⟩ (.int .i64 Q.2.2.2)) = u12
    obtain ⟨bR, hM_⟩ : u12.heap[u11.heap.size]? = some (.cells #[.int .i64 Q.1.1, .int .i64 Q.1.2.1, .int .i64 Q.1.2.2, .int .i64 Q.2.1, cq, .int .i64 Q.2.2.2] 26 (0, 0)) ∧ Mod [] u11 u12 := by
      subst hW_
      exact ⟨st6z heapNew, modSet6z ((Mod.refl [] u11).alloc _) (.inr (Nat.le_refl _))⟩
    clear hW_
    replace hM0 := hM0.trans hM_ (by simp)
    replace bP := hM_.get bP (by simp)
    replace hrd := hrd.mod hM_ (by simp)
    replace hg := hg.mod hM_ (by simp)
    replace bO := hM_.get bO (by simp)
    replace how := ownsRow_mod how hM_ (by simp)
    replace oP := ownsRow_mod oP hM_ (by simp)
    replace bQ := hM_.get bQ (by simp)
    replace oQ := ownsRow_mod oQ hM_ (by simp)
    generalize u11.heap.size = qr at *
    refine hold_stop (s' := none) ?_
    refine hold_code okT (rs := [.tmp 4]) rfl ?_
    have bQc := fun o => cellOf (o := o) bQ
    have bRc := fun o => cellOf (o := o) bR
    simp (maxSteps := 1000000) (disch := first | omega | (simp only [sizeAlloc, sizeDrew, sizeSet, sizePut] <;> omega) | fail) only [GS, TT_eq, TTl, Nat.reduceAdd, Nat.reduceMul, Nat.reduceSub, Nat.reduceDiv, Nat.reduceMod, Nat.reducePow, Nat.reduceEqDiff, ↓reduceIte, reduceCtorEq, Int.reduceToNat, Int.reduceAdd, Int.reduceSub, Int.reduceMul, hsv, cellsL_one hsv, os, cellsL_one os, eq_self, b13_self, bQc, bRc, op, oq, cellsL_one op, cellsL_one oq]
    refine ⟨fok35, hS1 _ _ _ (Rd.own oP) (Rd.own oQ) _ fun  u13 hM_ => .inl ⟨_, rfl, hold_ops okT (rs := [.tmp 4]) rfl ?_⟩⟩
    replace hM0 := hM0.trans hM_ (by simp)
    replace bP := hM_.get bP (by simp)
    replace hrd := hrd.mod hM_ (by simp)
    replace hg := hg.mod hM_ (by simp)
    replace bO := hM_.get bO (by simp)
    replace how := ownsRow_mod how hM_ (by simp)
    replace oP := ownsRow_mod oP hM_ (by simp)
    replace bQ := hM_.get bQ (by simp)
    replace oQ := ownsRow_mod oQ hM_ (by simp)
    replace bR := hM_.get bR (by simp)
    simp (maxSteps := 1000000) (disch := first | omega | (simp only [sizeAlloc, sizeDrew, sizeSet, sizePut] <;> omega) | fail) only [GS, TT_eq, TTl, Nat.reduceAdd, Nat.reduceMul, Nat.reduceSub, Nat.reduceDiv, Nat.reduceMod, Nat.reducePow, Nat.reduceEqDiff, ↓reduceIte, reduceCtorEq, Int.reduceToNat, Int.reduceAdd, Int.reduceSub, Int.reduceMul, hsv, cellsL_one hsv, os, cellsL_one os]
    by_cases hE : E = 0
    rotate_left
    · simp (maxSteps := 1000000) (disch := first | omega | (simp only [sizeAlloc, sizeDrew, sizeSet, sizePut] <;> omega) | fail) only [GS, TT_eq, TTl, Nat.reduceAdd, Nat.reduceMul, Nat.reduceSub, Nat.reduceDiv, Nat.reduceMod, Nat.reducePow, Nat.reduceEqDiff, ↓reduceIte, reduceCtorEq, Int.reduceToNat, Int.reduceAdd, Int.reduceSub, Int.reduceMul, hE]
      refine ⟨fok9, alive13_cps _ hg _ fun w30 hM30 => .inl ⟨_, rfl, hold_ops okT (rs := [.tmp 4]) rfl ?_⟩⟩
      simp (maxSteps := 1000000) (disch := first | omega | (simp only [sizeAlloc, sizeDrew, sizeSet, sizePut] <;> omega) | fail) only [GS, TT_eq, TTl, Nat.reduceAdd, Nat.reduceMul, Nat.reduceSub, Nat.reduceDiv, Nat.reduceMod, Nat.reducePow, Nat.reduceEqDiff, ↓reduceIte, reduceCtorEq, Int.reduceToNat, Int.reduceAdd, Int.reduceSub, Int.reduceMul]
      exact hR _ (hM0.trans hM30 (by simp))
    subst hE
    obtain ⟨rfl, rfl⟩ := hrdo rfl
    simp only at hR3
    simp (maxSteps := 1000000) (disch := first | omega | (simp only [sizeAlloc, sizeDrew, sizeSet, sizePut] <;> omega) | fail) only [GS, TT_eq, TTl, Nat.reduceAdd, Nat.reduceMul, Nat.reduceSub, Nat.reduceDiv, Nat.reduceMod, Nat.reducePow, Nat.reduceEqDiff, ↓reduceIte, reduceCtorEq, Int.reduceToNat, Int.reduceAdd, Int.reduceSub, Int.reduceMul, eq_self]
    have hqpl := (Array.getElem?_eq_some_iff.1 bQ).1
    refine ⟨fok36, hR3 _ _ fun cx u14 oX hM_ => .inl ⟨_, rfl, hold_stop (s' := some 19) (hold_ops okT (rs := [.tmp 4]) rfl ?_)⟩⟩
    replace hM0 := hM0.trans hM_ (by simp)
    replace bP := hM_.get bP (by simp)
    replace hrd := hrd.mod hM_ (by simp)
    replace hg := hg.mod hM_ (by simp)
    replace bO := hM_.get bO (by simp)
    replace how := ownsRow_mod how hM_ (by simp)
    replace bQ := hM_.get bQ (by simp)
    have ox := ownsRow_one oX
    have xQ := fun o => frozenOf (o := o) bQ
    have cQ := fun o => cellOf (o := o) bQ
    simp (maxSteps := 1000000) (disch := first | omega | (simp only [sizeAlloc, sizeDrew, sizeSet, sizePut] <;> omega) | fail) only [GS, TT_eq, TTl, Nat.reduceAdd, Nat.reduceMul, Nat.reduceSub, Nat.reduceDiv, Nat.reduceMod, Nat.reducePow, Nat.reduceEqDiff, ↓reduceIte, reduceCtorEq, Int.reduceToNat, Int.reduceAdd, Int.reduceSub, Int.reduceMul, hsv, cellsL_one hsv, os, cellsL_one os, ox, cellsL_one ox, xQ, cQ]
    generalize hW_ : ((((((u14.setCell ⟨qp, 0, none⟩ (.int .i64 a)).setCell ⟨qp, 1, none⟩ (.int .i64 b)).setCell ⟨qp, 2, none⟩ (.int .i64 c)).setCell ⟨qp, 3, none⟩ (.int .i64 aud)).setCell ⟨qp, 4, none⟩ (cx)).setCell ⟨qp, 5, none⟩ (.int .i64 org)) = wZ
    obtain ⟨bQ', hMs⟩ : wZ.heap[qp]? = some (.cells #[.int .i64 a, .int .i64 b, .int .i64 c, .int .i64 aud, cx, .int .i64 org] 26 (0, 0)) ∧ Mod [qp] u14 wZ := by
      subst hW_
      exact ⟨st6z bQ, modSet6z (Mod.refl [qp] _) (.inl (by simp))⟩
    clear hW_
    replace bP := hMs.get bP (by simp; omega)
    replace hM0 := hM0.trans hMs (by simp; omega)
    replace oX := ownsRow_mod oX hMs (by simp; omega)
    replace hrd := hro _ hM0
    replace hg := hg0.mod hM0 (by simp)
    clear hMs xQ cQ
    replace bQ := bQ'
    refine hold_stop (s' := none) ?_
    refine hold_code okT (rs := [.tmp 4]) rfl ?_
    have bQc := fun o => cellOf (o := o) bQ
    have bPc := fun o => cellOf (o := o) bP
    simp (maxSteps := 1000000) (disch := first | omega | (simp only [sizeAlloc, sizeDrew, sizeSet, sizePut] <;> omega) | fail) only [GS, TT_eq, TTl, Nat.reduceAdd, Nat.reduceMul, Nat.reduceSub, Nat.reduceDiv, Nat.reduceMod, Nat.reducePow, Nat.reduceEqDiff, ↓reduceIte, reduceCtorEq, Int.reduceToNat, Int.reduceAdd, Int.reduceSub, Int.reduceMul, hsv, cellsL_one hsv, os, cellsL_one os, bQc, bPc, ox, cellsL_one ox]
    refine ⟨fok35, hS0 _ _ _ (Rd.own oX) hrd _ fun  u15 hM_ => .inl ⟨_, rfl, hold_ops okT (rs := [.tmp 4]) rfl ?_⟩⟩
    replace hM0 := hM0.trans hM_ (by simp)
    replace bP := hM_.get bP (by simp)
    replace hrd := hrd.mod hM_ (by simp)
    replace hg := hg.mod hM_ (by simp)
    replace bQ := hM_.get bQ (by simp)
    replace oX := ownsRow_mod oX hM_ (by simp)
    simp (maxSteps := 1000000) (disch := first | omega | (simp only [sizeAlloc, sizeDrew, sizeSet, sizePut] <;> omega) | fail) only [GS, TT_eq, TTl, Nat.reduceAdd, Nat.reduceMul, Nat.reduceSub, Nat.reduceDiv, Nat.reduceMod, Nat.reducePow, Nat.reduceEqDiff, ↓reduceIte, reduceCtorEq, Int.reduceToNat, Int.reduceAdd, Int.reduceSub, Int.reduceMul, hsv, cellsL_one hsv, os, cellsL_one os]
    refine ⟨fok9, alive13_cps _ hg _ fun w30 hM30 => .inl ⟨_, rfl, hold_ops okT (rs := [.tmp 4]) rfl ?_⟩⟩
    simp (maxSteps := 1000000) (disch := first | omega | (simp only [sizeAlloc, sizeDrew, sizeSet, sizePut] <;> omega) | fail) only [GS, TT_eq, TTl, Nat.reduceAdd, Nat.reduceMul, Nat.reduceSub, Nat.reduceDiv, Nat.reduceMod, Nat.reducePow, Nat.reduceEqDiff, ↓reduceIte, reduceCtorEq, Int.reduceToNat, Int.reduceAdd, Int.reduceSub, Int.reduceMul]
    exact hR _ (hM0.trans hM30 (by simp))
  · simp only [Bool.false_eq_true, if_false, if_true]
    have c_bO := fun o => cellOf (o := o) bO
    have c_bP := fun o => cellOf (o := o) bP
    simp (maxSteps := 1000000) (disch := first | omega | (simp only [sizeAlloc, sizeDrew, sizeSet, sizePut] <;> omega) | fail) only [GS, TT_eq, TTl, Nat.reduceAdd, Nat.reduceMul, Nat.reduceSub, Nat.reduceDiv, Nat.reduceMod, Nat.reducePow, Nat.reduceEqDiff, ↓reduceIte, reduceCtorEq, Int.reduceToNat, Int.reduceAdd, Int.reduceSub, Int.reduceMul, hsv, cellsL_one hsv, os, cellsL_one os, eq_self, b13_self, c_bO, c_bP]
    refine ⟨fok35, hS0 _ _ _ (Rd.own how) hrd _ fun  u8 hM_ => .inl ⟨_, rfl, hold_ops okT (rs := [.tmp 4]) rfl ?_⟩⟩
    replace hM0 := hM0.trans hM_ (by simp)
    replace bP := hM_.get bP (by simp)
    replace hrd := hrd.mod hM_ (by simp)
    replace hg := hg.mod hM_ (by simp)
    replace bO := hM_.get bO (by simp)
    replace how := ownsRow_mod how hM_ (by simp)
    simp (maxSteps := 1000000) (disch := first | omega | (simp only [sizeAlloc, sizeDrew, sizeSet, sizePut] <;> omega) | fail) only [GS, TT_eq, TTl, Nat.reduceAdd, Nat.reduceMul, Nat.reduceSub, Nat.reduceDiv, Nat.reduceMod, Nat.reducePow, Nat.reduceEqDiff, ↓reduceIte, reduceCtorEq, Int.reduceToNat, Int.reduceAdd, Int.reduceSub, Int.reduceMul, hsv, cellsL_one hsv, os, cellsL_one os]
    refine ⟨fok36, hR1 _ _ fun cp u9 oP hM_ => .inl ⟨_, rfl, hold_stop (s' := some 13) (hold_ops okT (rs := [.tmp 4]) rfl ?_)⟩⟩
    replace hM0 := hM0.trans hM_ (by simp)
    replace bP := hM_.get bP (by simp)
    replace hrd := hrd.mod hM_ (by simp)
    replace hg := hg.mod hM_ (by simp)
    replace bO := hM_.get bO (by simp)
    replace how := ownsRow_mod how hM_ (by simp)
    have op := ownsRow_one oP
    have hwp : w.heap.size ≤ u9.heap.size := hM0.size
    have hnp : n < u9.heap.size := (Array.getElem?_eq_some_iff.1 bP).1
    simp (maxSteps := 1000000) (disch := first | omega | (simp only [sizeAlloc, sizeDrew, sizeSet, sizePut] <;> omega) | fail) only [GS, TT_eq, TTl, Nat.reduceAdd, Nat.reduceMul, Nat.reduceSub, Nat.reduceDiv, Nat.reduceMod, Nat.reducePow, Nat.reduceEqDiff, ↓reduceIte, reduceCtorEq, Int.reduceToNat, Int.reduceAdd, Int.reduceSub, Int.reduceMul, hsv, cellsL_one hsv, os, cellsL_one os, op, cellsL_one op]
    generalize hW_ : (((((((u9.alloc (.cells #[.int .i64 0, .int .i64 0, .int .i64 0, .int .i64 0, .slice none 0 0, .int .i64 0] 26)).setCell ⟨u9.heap.size, 0, none⟩ (.int .i64 Q.1.1)).setCell ⟨u9.heap.size, 1, none⟩ (.int .i64 Q.1.2.1)).setCell ⟨u9.heap.size, 2, none⟩ (.int .i64 Q.1.2.2)).setCell ⟨u9.heap.size, 3, none⟩ (.int .i64 Q.2.1)).setCell ⟨u9.heap.size, 4, none⟩ (cp)).setCell ⟨u9.heap.size, 5, none⟩ (.int .i64 Q.2.2.2)) = u10
    obtain ⟨bQ, hM_⟩ : u10.heap[u9.heap.size]? = some (.cells #[.int .i64 Q.1.1, .int .i64 Q.1.2.1, .int .i64 Q.1.2.2, .int .i64 Q.2.1, cp, .int .i64 Q.2.2.2] 26 (0, 0)) ∧ Mod [] u9 u10 := by
      subst hW_
      exact ⟨st6z heapNew, modSet6z ((Mod.refl [] u9).alloc _) (.inr (Nat.le_refl _))⟩
    clear hW_
    replace hM0 := hM0.trans hM_ (by simp)
    replace bP := hM_.get bP (by simp)
    replace hrd := hrd.mod hM_ (by simp)
    replace hg := hg.mod hM_ (by simp)
    replace bO := hM_.get bO (by simp)
    replace how := ownsRow_mod how hM_ (by simp)
    replace oP := ownsRow_mod oP hM_ (by simp)
    generalize u9.heap.size = qp at *
    refine hold_stop (s' := none) ?_
    refine hold_code okT (rs := [.tmp 4]) rfl ?_
    simp (maxSteps := 1000000) (disch := first | omega | (simp only [sizeAlloc, sizeDrew, sizeSet, sizePut] <;> omega) | fail) only [GS, TT_eq, TTl, Nat.reduceAdd, Nat.reduceMul, Nat.reduceSub, Nat.reduceDiv, Nat.reduceMod, Nat.reducePow, Nat.reduceEqDiff, ↓reduceIte, reduceCtorEq, Int.reduceToNat, Int.reduceAdd, Int.reduceSub, Int.reduceMul, hsv, cellsL_one hsv, os, cellsL_one os]
    refine ⟨fok37, hR2 _ _ fun cq u11 oQ hM_ => .inl ⟨_, rfl, hold_stop (s' := some 14) (hold_ops okT (rs := [.tmp 4]) rfl ?_)⟩⟩
    replace hM0 := hM0.trans hM_ (by simp)
    replace bP := hM_.get bP (by simp)
    replace hrd := hrd.mod hM_ (by simp)
    replace hg := hg.mod hM_ (by simp)
    replace bO := hM_.get bO (by simp)
    replace how := ownsRow_mod how hM_ (by simp)
    replace oP := ownsRow_mod oP hM_ (by simp)
    replace bQ := hM_.get bQ (by simp)
    have oq := ownsRow_one oQ
    simp (maxSteps := 1000000) (disch := first | omega | (simp only [sizeAlloc, sizeDrew, sizeSet, sizePut] <;> omega) | fail) only [GS, TT_eq, TTl, Nat.reduceAdd, Nat.reduceMul, Nat.reduceSub, Nat.reduceDiv, Nat.reduceMod, Nat.reducePow, Nat.reduceEqDiff, ↓reduceIte, reduceCtorEq, Int.reduceToNat, Int.reduceAdd, Int.reduceSub, Int.reduceMul, hsv, cellsL_one hsv, os, cellsL_one os, oq, cellsL_one oq]
    generalize hW_ : (((((((u11.alloc (.cells #[.int .i64 0, .int .i64 0, .int .i64 0, .int .i64 0, .slice none 0 0, .int .i64 0] 26)).setCell ⟨u11.heap.size, 0, none⟩ (.int .i64 Q.1.1)).setCell ⟨u11.heap.size, 1, none⟩ (.int .i64 Q.1.2.1)).setCell ⟨u11.heap.size, 2, none⟩ (.int .i64 Q.1.2.2)).setCell ⟨u11.heap.size, 3, none⟩ (.int .i64 Q.2.1)).setCell ⟨u11.heap.size, 4, none⟩ (cq)).setCell ⟨u11.heap.size, 5, none⟩ (.int .i64 Q.2.2.2)) = u12
    obtain ⟨bR, hM_⟩ : u12.heap[u11.heap.size]? = some (.cells #[.int .i64 Q.1.1, .int .i64 Q.1.2.1, .int .i64 Q.1.2.2, .int .i64 Q.2.1, cq, .int .i64 Q.2.2.2] 26 (0, 0)) ∧ Mod [] u11 u12 := by
      subst hW_
      exact ⟨st6z heapNew, modSet6z ((Mod.refl [] u11).alloc _) (.inr (Nat.le_refl _))⟩
    clear hW_
    replace hM0 := hM0.trans hM_ (by simp)
    replace bP := hM_.get bP (by simp)
    replace hrd := hrd.mod hM_ (by simp)
    replace hg := hg.mod hM_ (by simp)
    replace bO := hM_.get bO (by simp)
    replace how := ownsRow_mod how hM_ (by simp)
    replace oP := ownsRow_mod oP hM_ (by simp)
    replace bQ := hM_.get bQ (by simp)
    replace oQ := ownsRow_mod oQ hM_ (by simp)
    generalize u11.heap.size = qr at *
    refine hold_stop (s' := none) ?_
    refine hold_code okT (rs := [.tmp 4]) rfl ?_
    have bQc := fun o => cellOf (o := o) bQ
    have bRc := fun o => cellOf (o := o) bR
    simp (maxSteps := 1000000) (disch := first | omega | (simp only [sizeAlloc, sizeDrew, sizeSet, sizePut] <;> omega) | fail) only [GS, TT_eq, TTl, Nat.reduceAdd, Nat.reduceMul, Nat.reduceSub, Nat.reduceDiv, Nat.reduceMod, Nat.reducePow, Nat.reduceEqDiff, ↓reduceIte, reduceCtorEq, Int.reduceToNat, Int.reduceAdd, Int.reduceSub, Int.reduceMul, hsv, cellsL_one hsv, os, cellsL_one os, eq_self, b13_self, bQc, bRc, op, oq, cellsL_one op, cellsL_one oq]
    refine ⟨fok35, hS1 _ _ _ (Rd.own oP) (Rd.own oQ) _ fun  u13 hM_ => .inl ⟨_, rfl, hold_ops okT (rs := [.tmp 4]) rfl ?_⟩⟩
    replace hM0 := hM0.trans hM_ (by simp)
    replace bP := hM_.get bP (by simp)
    replace hrd := hrd.mod hM_ (by simp)
    replace hg := hg.mod hM_ (by simp)
    replace bO := hM_.get bO (by simp)
    replace how := ownsRow_mod how hM_ (by simp)
    replace oP := ownsRow_mod oP hM_ (by simp)
    replace bQ := hM_.get bQ (by simp)
    replace oQ := ownsRow_mod oQ hM_ (by simp)
    replace bR := hM_.get bR (by simp)
    simp (maxSteps := 1000000) (disch := first | omega | (simp only [sizeAlloc, sizeDrew, sizeSet, sizePut] <;> omega) | fail) only [GS, TT_eq, TTl, Nat.reduceAdd, Nat.reduceMul, Nat.reduceSub, Nat.reduceDiv, Nat.reduceMod, Nat.reducePow, Nat.reduceEqDiff, ↓reduceIte, reduceCtorEq, Int.reduceToNat, Int.reduceAdd, Int.reduceSub, Int.reduceMul, hsv, cellsL_one hsv, os, cellsL_one os]
    by_cases hE : E = 0
    rotate_left
    · simp (maxSteps := 1000000) (disch := first | omega | (simp only [sizeAlloc, sizeDrew, sizeSet, sizePut] <;> omega) | fail) only [GS, TT_eq, TTl, Nat.reduceAdd, Nat.reduceMul, Nat.reduceSub, Nat.reduceDiv, Nat.reduceMod, Nat.reducePow, Nat.reduceEqDiff, ↓reduceIte, reduceCtorEq, Int.reduceToNat, Int.reduceAdd, Int.reduceSub, Int.reduceMul, hE]
      refine ⟨fok9, alive13_cps _ hg _ fun w30 hM30 => .inl ⟨_, rfl, hold_ops okT (rs := [.tmp 4]) rfl ?_⟩⟩
      simp (maxSteps := 1000000) (disch := first | omega | (simp only [sizeAlloc, sizeDrew, sizeSet, sizePut] <;> omega) | fail) only [GS, TT_eq, TTl, Nat.reduceAdd, Nat.reduceMul, Nat.reduceSub, Nat.reduceDiv, Nat.reduceMod, Nat.reducePow, Nat.reduceEqDiff, ↓reduceIte, reduceCtorEq, Int.reduceToNat, Int.reduceAdd, Int.reduceSub, Int.reduceMul]
      exact hR _ (hM0.trans hM30 (by simp))
    subst hE
    obtain ⟨rfl, rfl⟩ := hrdo rfl
    simp only at hR3
    simp (maxSteps := 1000000) (disch := first | omega | (simp only [sizeAlloc, sizeDrew, sizeSet, sizePut] <;> omega) | fail) only [GS, TT_eq, TTl, Nat.reduceAdd, Nat.reduceMul, Nat.reduceSub, Nat.reduceDiv, Nat.reduceMod, Nat.reducePow, Nat.reduceEqDiff, ↓reduceIte, reduceCtorEq, Int.reduceToNat, Int.reduceAdd, Int.reduceSub, Int.reduceMul, eq_self]
    have hqpl := (Array.getElem?_eq_some_iff.1 bQ).1
    refine ⟨fok36, hR3 _ _ fun cx u14 oX hM_ => .inl ⟨_, rfl, hold_stop (s' := some 19) (hold_ops okT (rs := [.tmp 4]) rfl ?_)⟩⟩
    replace hM0 := hM0.trans hM_ (by simp)
    replace bP := hM_.get bP (by simp)
    replace hrd := hrd.mod hM_ (by simp)
    replace hg := hg.mod hM_ (by simp)
    replace bO := hM_.get bO (by simp)
    replace how := ownsRow_mod how hM_ (by simp)
    replace bQ := hM_.get bQ (by simp)
    have ox := ownsRow_one oX
    have xQ := fun o => frozenOf (o := o) bQ
    have cQ := fun o => cellOf (o := o) bQ
    simp (maxSteps := 1000000) (disch := first | omega | (simp only [sizeAlloc, sizeDrew, sizeSet, sizePut] <;> omega) | fail) only [GS, TT_eq, TTl, Nat.reduceAdd, Nat.reduceMul, Nat.reduceSub, Nat.reduceDiv, Nat.reduceMod, Nat.reducePow, Nat.reduceEqDiff, ↓reduceIte, reduceCtorEq, Int.reduceToNat, Int.reduceAdd, Int.reduceSub, Int.reduceMul, hsv, cellsL_one hsv, os, cellsL_one os, ox, cellsL_one ox, xQ, cQ]
    generalize hW_ : ((((((u14.setCell ⟨qp, 0, none⟩ (.int .i64 a)).setCell ⟨qp, 1, none⟩ (.int .i64 b)).setCell ⟨qp, 2, none⟩ (.int .i64 c)).setCell ⟨qp, 3, none⟩ (.int .i64 aud)).setCell ⟨qp, 4, none⟩ (cx)).setCell ⟨qp, 5, none⟩ (.int .i64 org)) = wZ
    obtain ⟨bQ', hMs⟩ : wZ.heap[qp]? = some (.cells #[.int .i64 a, .int .i64 b, .int .i64 c, .int .i64 aud, cx, .int .i64 org] 26 (0, 0)) ∧ Mod [qp] u14 wZ := by
      subst hW_
      exact ⟨st6z bQ, modSet6z (Mod.refl [qp] _) (.inl (by simp))⟩
    clear hW_
    replace bP := hMs.get bP (by simp; omega)
    replace hM0 := hM0.trans hMs (by simp; omega)
    replace oX := ownsRow_mod oX hMs (by simp; omega)
    replace hrd := hro _ hM0
    replace hg := hg0.mod hM0 (by simp)
    clear hMs xQ cQ
    replace bQ := bQ'
    refine hold_stop (s' := none) ?_
    refine hold_code okT (rs := [.tmp 4]) rfl ?_
    have bQc := fun o => cellOf (o := o) bQ
    have bPc := fun o => cellOf (o := o) bP
    simp (maxSteps := 1000000) (disch := first | omega | (simp only [sizeAlloc, sizeDrew, sizeSet, sizePut] <;> omega) | fail) only [GS, TT_eq, TTl, Nat.reduceAdd, Nat.reduceMul, Nat.reduceSub, Nat.reduceDiv, Nat.reduceMod, Nat.reducePow, Nat.reduceEqDiff, ↓reduceIte, reduceCtorEq, Int.reduceToNat, Int.reduceAdd, Int.reduceSub, Int.reduceMul, hsv, cellsL_one hsv, os, cellsL_one os, bQc, bPc, ox, cellsL_one ox]
    refine ⟨fok35, hS0 _ _ _ (Rd.own oX) hrd _ fun  u15 hM_ => .inl ⟨_, rfl, hold_ops okT (rs := [.tmp 4]) rfl ?_⟩⟩
    replace hM0 := hM0.trans hM_ (by simp)
    replace bP := hM_.get bP (by simp)
    replace hrd := hrd.mod hM_ (by simp)
    replace hg := hg.mod hM_ (by simp)
    replace bQ := hM_.get bQ (by simp)
    replace oX := ownsRow_mod oX hM_ (by simp)
    simp (maxSteps := 1000000) (disch := first | omega | (simp only [sizeAlloc, sizeDrew, sizeSet, sizePut] <;> omega) | fail) only [GS, TT_eq, TTl, Nat.reduceAdd, Nat.reduceMul, Nat.reduceSub, Nat.reduceDiv, Nat.reduceMod, Nat.reducePow, Nat.reduceEqDiff, ↓reduceIte, reduceCtorEq, Int.reduceToNat, Int.reduceAdd, Int.reduceSub, Int.reduceMul, hsv, cellsL_one hsv, os, cellsL_one os]
    refine ⟨fok9, alive13_cps _ hg _ fun w30 hM30 => .inl ⟨_, rfl, hold_ops okT (rs := [.tmp 4]) rfl ?_⟩⟩
    simp (maxSteps := 1000000) (disch := first | omega | (simp only [sizeAlloc, sizeDrew, sizeSet, sizePut] <;> omega) | fail) only [GS, TT_eq, TTl, Nat.reduceAdd, Nat.reduceMul, Nat.reduceSub, Nat.reduceDiv, Nat.reduceMod, Nat.reducePow, Nat.reduceEqDiff, ↓reduceIte, reduceCtorEq, Int.reduceToNat, Int.reduceAdd, Int.reduceSub, Int.reduceMul]
    exact hR _ (hM0.trans hM30 (by simp))
end Go.Proofs.YthnlmmkhehphiaaGreatDoor
