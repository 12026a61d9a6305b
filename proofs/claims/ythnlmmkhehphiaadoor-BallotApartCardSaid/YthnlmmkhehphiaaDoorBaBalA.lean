/-
  BallotApart (walk).
-/
import Derived.Test.YthnlmmkhehphiaaDoorBaBal9
set_option linter.unusedSimpArgs false
set_option linter.unusedVariables false
set_option maxRecDepth 20000
namespace Go.Proofs.YthnlmmkhehphiaaDoor
open Go Go.Wk Go.RowKit
attribute [local irreducible] go Hold
open Go.Lib
theorem two6a {w W : World} {A B : Obj} (h : (w.alloc A).alloc B = W) : W.heap[w.heap.size]? = some A ∧ W.heap[w.heap.size + 1]? = some B ∧ Mod [] w W := by
  subst h
  have h1 := heapNew (w := w.alloc A) (o := B)
  rw [sizeAlloc] at h1
  exact ⟨heapAlloc heapNew, h1, ((Mod.refl [] w).alloc A).alloc B⟩
theorem b13_selfA (b : Bool) : beq2 b b = true := by cases b <;> rfl
theorem longB_is13A {l : List Mb} (h : longB l = false) : l.length ≤ 20 ∧ ∀ x ∈ l, x.2.length ≤ 20000 := by
  unfold longB at h
  simp only [Bool.or_eq_false_iff] at h
  refine ⟨by have := of_decide_eq_false h.1; omega, fun x hx => ?_⟩
  have := List.any_eq_false.1 h.2 x hx
  simp only [decide_eq_true_eq] at this
  omega
set_option maxRecDepth 20000 in
set_option maxHeartbeats 64000000 in
theorem apart13_cps (x y : Tx) (aud bud : Int) (ms ns : Value) (mbs nbs : List Mb) (org prg : Int) (w : World) (ha : MbsIn w ms mbs) (hb : MbsIn w ns nbs) (hg : KG w) (R : Ending → World → Prop) (hR : ∀ w', Mod [] w w' → R (.returned (.bool true)) w') :
    Calls Tryd.prog 3 #[balV x aud ms org, balV y bud ns prg] w R := by
  have os : ms.oneCell' = true := by obtain ⟨a, c, e⟩ := ha.rd.slice; rw [e]; rfl
  have ot : ns.oneCell' = true := by obtain ⟨a, c, e⟩ := hb.rd.slice; rw [e]; rfl
  obtain ⟨hra, hlena, hdiga, hmoa⟩ := ha
  obtain ⟨hrb, hlenb, hdigb, hmob⟩ := hb
  have hinj := @tag_inj x y aud bud mbs nbs org prg
  obtain ⟨a, b, c⟩ := x
  obtain ⟨d, e, f⟩ := y
  unfold balV
  simp only
  refine calls_go 4000 okT Tryd.func3 rfl (rs := [.tmp 4]) rfl Tryd.ntmps3 (args := [.agg #[.int .i64 a, .int .i64 b, .int .i64 c, .int .i64 aud, ms, .int .i64 org], .agg #[.int .i64 d, .int .i64 e, .int .i64 f, .int .i64 bud, ns, .int .i64 prg]]) ?_
  simp (maxSteps := 1000000) (disch := first | omega | (simp only [sizeAlloc, sizeDrew, sizeSet, sizePut] <;> omega) | fail) only [GS, TT_eq, TTl, Nat.reduceAdd, Nat.reduceMul, Nat.reduceSub, Nat.reduceDiv, Nat.reduceMod, Nat.reducePow, Nat.reduceEqDiff, ↓reduceIte, reduceCtorEq, Int.reduceToNat, Int.reduceAdd, Int.reduceSub, Int.reduceMul, os, ot, cellsL_one os, cellsL_one ot]
  generalize hW : (w.alloc (.cells #[.int .i64 a, .int .i64 b, .int .i64 c, .int .i64 aud, ms, .int .i64 org] 26)).alloc (.cells #[.int .i64 d, .int .i64 e, .int .i64 f, .int .i64 bud, ns, .int .i64 prg] 26) = w1
  obtain ⟨bP, bQ, hM0⟩ := two6a hW
  clear hW
  generalize hn : w.heap.size = n at *
  replace hra := hra.mod hM0 (by simp)
  replace hrb := hrb.mod hM0 (by simp)
  replace hg := hg.mod hM0 (by simp)
  refine ⟨fok5, Long12_cps ms mbs _ _ (by omega) hdiga hra (.inl ⟨_, rfl, hold_ops okT (rs := [.tmp 4]) rfl ?_⟩)⟩
  cases hla : longB mbs
  rotate_left
  · simp (maxSteps := 1000000) (disch := first | omega | (simp only [sizeAlloc, sizeDrew, sizeSet, sizePut] <;> omega) | fail) only [GS, TT_eq, TTl, Nat.reduceAdd, Nat.reduceMul, Nat.reduceSub, Nat.reduceDiv, Nat.reduceMod, Nat.reducePow, Nat.reduceEqDiff, ↓reduceIte, reduceCtorEq, Int.reduceToNat, Int.reduceAdd, Int.reduceSub, Int.reduceMul]
    refine ⟨fok6, alive13_cps _ hg _ fun w30 hM30 => .inl ⟨_, rfl, hold_ops okT (rs := [.tmp 4]) rfl ?_⟩⟩
    simp (maxSteps := 1000000) (disch := first | omega | (simp only [sizeAlloc, sizeDrew, sizeSet, sizePut] <;> omega) | fail) only [GS, TT_eq, TTl, Nat.reduceAdd, Nat.reduceMul, Nat.reduceSub, Nat.reduceDiv, Nat.reduceMod, Nat.reducePow, Nat.reduceEqDiff, ↓reduceIte, reduceCtorEq, Int.reduceToNat, Int.reduceAdd, Int.reduceSub, Int.reduceMul]
    exact hR _ (hM0.trans hM30 (by simp))
  have c_bP := fun o => cellOf (o := o) bP
  have c_bQ := fun o => cellOf (o := o) bQ
  simp (maxSteps := 1000000) (disch := first | omega | (simp only [sizeAlloc, sizeDrew, sizeSet, sizePut] <;> omega) | fail) only [GS, TT_eq, TTl, Nat.reduceAdd, Nat.reduceMul, Nat.reduceSub, Nat.reduceDiv, Nat.reduceMod, Nat.reducePow, Nat.reduceEqDiff, ↓reduceIte, reduceCtorEq, Int.reduceToNat, Int.reduceAdd, Int.reduceSub, Int.reduceMul, os, ot, cellsL_one os, cellsL_one ot, c_bP, c_bQ]
  refine ⟨fok5, Long12_cps ns nbs _ _ (by omega) hdigb hrb (.inl ⟨_, rfl, hold_ops okT (rs := [.tmp 4]) rfl ?_⟩)⟩
  cases hlb : longB nbs
  rotate_left
  · simp (maxSteps := 1000000) (disch := first | omega | (simp only [sizeAlloc, sizeDrew, sizeSet, sizePut] <;> omega) | fail) only [GS, TT_eq, TTl, Nat.reduceAdd, Nat.reduceMul, Nat.reduceSub, Nat.reduceDiv, Nat.reduceMod, Nat.reducePow, Nat.reduceEqDiff, ↓reduceIte, reduceCtorEq, Int.reduceToNat, Int.reduceAdd, Int.reduceSub, Int.reduceMul]
    refine ⟨fok6, alive13_cps _ hg _ fun w30 hM30 => .inl ⟨_, rfl, hold_ops okT (rs := [.tmp 4]) rfl ?_⟩⟩
    simp (maxSteps := 1000000) (disch := first | omega | (simp only [sizeAlloc, sizeDrew, sizeSet, sizePut] <;> omega) | fail) only [GS, TT_eq, TTl, Nat.reduceAdd, Nat.reduceMul, Nat.reduceSub, Nat.reduceDiv, Nat.reduceMod, Nat.reducePow, Nat.reduceEqDiff, ↓reduceIte, reduceCtorEq, Int.reduceToNat, Int.reduceAdd, Int.reduceSub, Int.reduceMul]
    exact hR _ (hM0.trans hM30 (by simp))
  obtain ⟨hl20, hd20⟩ := longB_is13A hla
  obtain ⟨hk20, he20⟩ := longB_is13A hlb
  have hTa := fun s w h => bTag_cps s (a, b, c) aud ms mbs org w (by omega) hdiga h
  have hTb := fun s w h => bTag_cps s (d, e, f) bud ns nbs prg w (by omega) hdigb h
  have hFa := fun s t w h => bFits_cps s (a, b, c) aud ms mbs org t w (by omega) hdiga h
  have hFb := fun s t w h => bFits_cps s (d, e, f) bud ns nbs prg t w (by omega) hdigb h
  have hSm := fun w R h1 h2 h => Same13_cps (a, b, c) (d, e, f) aud bud ms ns mbs nbs org prg w R (by omega) h1 h2 h
  generalize tagS (a, b, c) aud mbs org = TA at *
  generalize tagS (d, e, f) bud nbs prg = TB at *
  obtain ⟨X, E⟩ := TA
  obtain ⟨Y, F⟩ := TB
  unfold balV stV at hTa hTb
  unfold balV at hFa hFb hSm
  simp only at hTa hTb hFa hFb hSm hinj
  simp (maxSteps := 1000000) (disch := first | omega | (simp only [sizeAlloc, sizeDrew, sizeSet, sizePut] <;> omega) | fail) only [GS, TT_eq, TTl, Nat.reduceAdd, Nat.reduceMul, Nat.reduceSub, Nat.reduceDiv, Nat.reduceMod, Nat.reducePow, Nat.reduceEqDiff, ↓reduceIte, reduceCtorEq, Int.reduceToNat, Int.reduceAdd, Int.reduceSub, Int.reduceMul]
  refine ⟨fok7, sNew_cps [] _ _ fun s u1 hs hM_ => .inl ⟨_, rfl, hold_ops okT (rs := [.tmp 4]) rfl ?_⟩⟩
  replace hM0 := hM0.trans hM_ (by simp)
  replace bP := hM_.get bP (by simp)
  replace bQ := hM_.get bQ (by simp)
  replace hra := hra.mod hM_ (by simp)
  replace hrb := hrb.mod hM_ (by simp)
  replace hg := hg.mod hM_ (by simp)
  have c_bP := fun o => cellOf (o := o) bP
  have c_bQ := fun o => cellOf (o := o) bQ
  simp (maxSteps := 1000000) (disch := first | omega | (simp only [sizeAlloc, sizeDrew, sizeSet, sizePut] <;> omega) | fail) only [GS, TT_eq, TTl, Nat.reduceAdd, Nat.reduceMul, Nat.reduceSub, Nat.reduceDiv, Nat.reduceMod, Nat.reducePow, Nat.reduceEqDiff, ↓reduceIte, reduceCtorEq, Int.reduceToNat, Int.reduceAdd, Int.reduceSub, Int.reduceMul, os, ot, cellsL_one os, cellsL_one ot, c_bP, c_bQ]
  refine ⟨fok8, hTa _ _ hra hs hg _ fun  u2 hM_ => .inl ⟨_, rfl, hold_ops okT (rs := [.tmp 4]) rfl ?_⟩⟩
  replace hM0 := hM0.trans hM_ (by simp)
  replace bP := hM_.get bP (by simp)
  replace bQ := hM_.get bQ (by simp)
  replace hra := hra.mod hM_ (by simp)
  replace hrb := hrb.mod hM_ (by simp)
  replace hg := hg.mod hM_ (by simp)
  replace hs := hs.mod hM_
  have c_bP := fun o => cellOf (o := o) bP
  have c_bQ := fun o => cellOf (o := o) bQ
  simp (maxSteps := 1000000) (disch := first | omega | (simp only [sizeAlloc, sizeDrew, sizeSet, sizePut] <;> omega) | fail) only [GS, TT_eq, TTl, Nat.reduceAdd, Nat.reduceMul, Nat.reduceSub, Nat.reduceDiv, Nat.reduceMod, Nat.reducePow, Nat.reduceEqDiff, ↓reduceIte, reduceCtorEq, Int.reduceToNat, Int.reduceAdd, Int.reduceSub, Int.reduceMul, os, ot, cellsL_one os, cellsL_one ot, c_bP, c_bQ]
  refine ⟨fok8, hTb _ _ hrb hs hg _ fun  u3 hM_ => .inl ⟨_, rfl, hold_ops okT (rs := [.tmp 4]) rfl ?_⟩⟩
  replace hM0 := hM0.trans hM_ (by simp)
  replace bP := hM_.get bP (by simp)
  replace bQ := hM_.get bQ (by simp)
  replace hra := hra.mod hM_ (by simp)
  replace hrb := hrb.mod hM_ (by simp)
  replace hg := hg.mod hM_ (by simp)
  replace hs := hs.mod hM_
  by_cases hE : E = 0
  rotate_left
  · simp (maxSteps := 1000000) (disch := first | omega | (simp only [sizeAlloc, sizeDrew, sizeSet, sizePut] <;> omega) | fail) only [GS, TT_eq, TTl, Nat.reduceAdd, Nat.reduceMul, Nat.reduceSub, Nat.reduceDiv, Nat.reduceMod, Nat.reducePow, Nat.reduceEqDiff, ↓reduceIte, reduceCtorEq, Int.reduceToNat, Int.reduceAdd, Int.reduceSub, Int.reduceMul, hE]
    refine ⟨fok6, alive13_cps _ hg _ fun w30 hM30 => .inl ⟨_, rfl, hold_ops okT (rs := [.tmp 4]) rfl ?_⟩⟩
    simp (maxSteps := 1000000) (disch := first | omega | (simp only [sizeAlloc, sizeDrew, sizeSet, sizePut] <;> omega) | fail) only [GS, TT_eq, TTl, Nat.reduceAdd, Nat.reduceMul, Nat.reduceSub, Nat.reduceDiv, Nat.reduceMod, Nat.reducePow, Nat.reduceEqDiff, ↓reduceIte, reduceCtorEq, Int.reduceToNat, Int.reduceAdd, Int.reduceSub, Int.reduceMul]
    exact hR _ (hM0.trans hM30 (by simp))
  by_cases hF : F = 0
  rotate_left
  · simp (maxSteps := 1000000) (disch := first | omega | (simp only [sizeAlloc, sizeDrew, sizeSet, sizePut] <;> omega) | fail) only [GS, TT_eq, TTl, Nat.reduceAdd, Nat.reduceMul, Nat.reduceSub, Nat.reduceDiv, Nat.reduceMod, Nat.reducePow, Nat.reduceEqDiff, ↓reduceIte, reduceCtorEq, Int.reduceToNat, Int.reduceAdd, Int.reduceSub, Int.reduceMul, hE, hF]
    refine ⟨fok6, alive13_cps _ hg _ fun w30 hM30 => .inl ⟨_, rfl, hold_ops okT (rs := [.tmp 4]) rfl ?_⟩⟩
    simp (maxSteps := 1000000) (disch := first | omega | (simp only [sizeAlloc, sizeDrew, sizeSet, sizePut] <;> omega) | fail) only [GS, TT_eq, TTl, Nat.reduceAdd, Nat.reduceMul, Nat.reduceSub, Nat.reduceDiv, Nat.reduceMod, Nat.reducePow, Nat.reduceEqDiff, ↓reduceIte, reduceCtorEq, Int.reduceToNat, Int.reduceAdd, Int.reduceSub, Int.reduceMul]
    exact hR _ (hM0.trans hM30 (by simp))
  subst hE hF
  replace hinj := hinj rfl rfl
  simp only [decide_true, Bool.true_and] at hFa hFb
  have c_bP := fun o => cellOf (o := o) bP
  have c_bQ := fun o => cellOf (o := o) bQ
  simp (maxSteps := 1000000) (disch := first | omega | (simp only [sizeAlloc, sizeDrew, sizeSet, sizePut] <;> omega) | fail) only [GS, TT_eq, TTl, Nat.reduceAdd, Nat.reduceMul, Nat.reduceSub, Nat.reduceDiv, Nat.reduceMod, Nat.reducePow, Nat.reduceEqDiff, ↓reduceIte, reduceCtorEq, Int.reduceToNat, Int.reduceAdd, Int.reduceSub, Int.reduceMul, os, ot, cellsL_one os, cellsL_one ot, c_bP, c_bQ, eq_self]
  refine ⟨fok9, hSm _ _ hra hrb fun  u4 hM_ => .inl ⟨_, rfl, hold_ops okT (rs := [.tmp 4]) rfl ?_⟩⟩
  replace hM0 := hM0.trans hM_ (by simp)
  replace bP := hM_.get bP (by simp)
  replace bQ := hM_.get bQ (by simp)
  replace hra := hra.mod hM_ (by simp)
  replace hrb := hrb.mod hM_ (by simp)
  replace hg := hg.mod hM_ (by simp)
  replace hs := hs.mod hM_
  by_cases hXY : X = Y
  · subst hXY
    rw [decide_eq_true (hinj.1 rfl)]
    have c_bP := fun o => cellOf (o := o) bP
    have c_bQ := fun o => cellOf (o := o) bQ
    simp (maxSteps := 1000000) (disch := first | omega | (simp only [sizeAlloc, sizeDrew, sizeSet, sizePut] <;> omega) | fail) only [GS, TT_eq, TTl, Nat.reduceAdd, Nat.reduceMul, Nat.reduceSub, Nat.reduceDiv, Nat.reduceMod, Nat.reducePow, Nat.reduceEqDiff, ↓reduceIte, reduceCtorEq, Int.reduceToNat, Int.reduceAdd, Int.reduceSub, Int.reduceMul, os, ot, cellsL_one os, cellsL_one ot, c_bP, c_bQ, eq_self, b13_selfA]
    have hF1 := hFa s X
    rw [decide_eq_true rfl] at hF1
    refine ⟨fok10, hF1 _ hra hs hg _ fun  u5 hM_ => .inl ⟨_, rfl, hold_ops okT (rs := [.tmp 4]) rfl ?_⟩⟩
    replace hM0 := hM0.trans hM_ (by simp)
    replace bP := hM_.get bP (by simp)
    replace bQ := hM_.get bQ (by simp)
    replace hra := hra.mod hM_ (by simp)
    replace hrb := hrb.mod hM_ (by simp)
    replace hg := hg.mod hM_ (by simp)
    replace hs := hs.mod hM_
    have c_bP := fun o => cellOf (o := o) bP
    have c_bQ := fun o => cellOf (o := o) bQ
    simp (maxSteps := 1000000) (disch := first | omega | (simp only [sizeAlloc, sizeDrew, sizeSet, sizePut] <;> omega) | fail) only [GS, TT_eq, TTl, Nat.reduceAdd, Nat.reduceMul, Nat.reduceSub, Nat.reduceDiv, Nat.reduceMod, Nat.reducePow, Nat.reduceEqDiff, ↓reduceIte, reduceCtorEq, Int.reduceToNat, Int.reduceAdd, Int.reduceSub, Int.reduceMul, os, ot, cellsL_one os, cellsL_one ot, c_bP, c_bQ, b13_selfA]
    have hF2 := hFb s X
    rw [decide_eq_true rfl] at hF2
    refine ⟨fok10, hF2 _ hrb hs hg _ fun  u6 hM_ => .inl ⟨_, rfl, hold_ops okT (rs := [.tmp 4]) rfl ?_⟩⟩
    replace hM0 := hM0.trans hM_ (by simp)
    replace bP := hM_.get bP (by simp)
    replace bQ := hM_.get bQ (by simp)
    replace hra := hra.mod hM_ (by simp)
    replace hrb := hrb.mod hM_ (by simp)
    replace hg := hg.mod hM_ (by simp)
    replace hs := hs.mod hM_
    have c_bP := fun o => cellOf (o := o) bP
    have c_bQ := fun o => cellOf (o := o) bQ
    simp (maxSteps := 1000000) (disch := first | omega | (simp only [sizeAlloc, sizeDrew, sizeSet, sizePut] <;> omega) | fail) only [GS, TT_eq, TTl, Nat.reduceAdd, Nat.reduceMul, Nat.reduceSub, Nat.reduceDiv, Nat.reduceMod, Nat.reducePow, Nat.reduceEqDiff, ↓reduceIte, reduceCtorEq, Int.reduceToNat, Int.reduceAdd, Int.reduceSub, Int.reduceMul, os, ot, cellsL_one os, cellsL_one ot, c_bP, c_bQ, b13_selfA]
    refine ⟨fok6, alive13_cps _ hg _ fun w30 hM30 => .inl ⟨_, rfl, hold_ops okT (rs := [.tmp 4]) rfl ?_⟩⟩
    simp (maxSteps := 1000000) (disch := first | omega | (simp only [sizeAlloc, sizeDrew, sizeSet, sizePut] <;> omega) | fail) only [GS, TT_eq, TTl, Nat.reduceAdd, Nat.reduceMul, Nat.reduceSub, Nat.reduceDiv, Nat.reduceMod, Nat.reducePow, Nat.reduceEqDiff, ↓reduceIte, reduceCtorEq, Int.reduceToNat, Int.reduceAdd, Int.reduceSub, Int.reduceMul]
    exact hR _ (hM0.trans hM30 (by simp))
  · have hYX : ¬ Y = X := fun h => hXY h.symm
    rw [decide_eq_false (fun h => hXY (hinj.2 h))]
    have c_bP := fun o => cellOf (o := o) bP
    have c_bQ := fun o => cellOf (o := o) bQ
    simp (maxSteps := 1000000) (disch := first | omega | (simp only [sizeAlloc, sizeDrew, sizeSet, sizePut] <;> omega) | fail) only [GS, TT_eq, TTl, Nat.reduceAdd, Nat.reduceMul, Nat.reduceSub, Nat.reduceDiv, Nat.reduceMod, Nat.reducePow, Nat.reduceEqDiff, ↓reduceIte, reduceCtorEq, Int.reduceToNat, Int.reduceAdd, Int.reduceSub, Int.reduceMul, os, ot, cellsL_one os, cellsL_one ot, c_bP, c_bQ, hXY, b13_selfA]
    have hF1 := hFa s Y
    rw [decide_eq_false hXY] at hF1
    refine ⟨fok10, hF1 _ hra hs hg _ fun  u5 hM_ => .inl ⟨_, rfl, hold_ops okT (rs := [.tmp 4]) rfl ?_⟩⟩
    replace hM0 := hM0.trans hM_ (by simp)
    replace bP := hM_.get bP (by simp)
    replace bQ := hM_.get bQ (by simp)
    replace hra := hra.mod hM_ (by simp)
    replace hrb := hrb.mod hM_ (by simp)
    replace hg := hg.mod hM_ (by simp)
    replace hs := hs.mod hM_
    have c_bP := fun o => cellOf (o := o) bP
    have c_bQ := fun o => cellOf (o := o) bQ
    simp (maxSteps := 1000000) (disch := first | omega | (simp only [sizeAlloc, sizeDrew, sizeSet, sizePut] <;> omega) | fail) only [GS, TT_eq, TTl, Nat.reduceAdd, Nat.reduceMul, Nat.reduceSub, Nat.reduceDiv, Nat.reduceMod, Nat.reducePow, Nat.reduceEqDiff, ↓reduceIte, reduceCtorEq, Int.reduceToNat, Int.reduceAdd, Int.reduceSub, Int.reduceMul, os, ot, cellsL_one os, cellsL_one ot, c_bP, c_bQ, b13_selfA]
    have hF2 := hFb s X
    rw [decide_eq_false hYX] at hF2
    refine ⟨fok10, hF2 _ hrb hs hg _ fun  u6 hM_ => .inl ⟨_, rfl, hold_ops okT (rs := [.tmp 4]) rfl ?_⟩⟩
    replace hM0 := hM0.trans hM_ (by simp)
    replace bP := hM_.get bP (by simp)
    replace bQ := hM_.get bQ (by simp)
    replace hra := hra.mod hM_ (by simp)
    replace hrb := hrb.mod hM_ (by simp)
    replace hg := hg.mod hM_ (by simp)
    replace hs := hs.mod hM_
    have c_bP := fun o => cellOf (o := o) bP
    have c_bQ := fun o => cellOf (o := o) bQ
    simp (maxSteps := 1000000) (disch := first | omega | (simp only [sizeAlloc, sizeDrew, sizeSet, sizePut] <;> omega) | fail) only [GS, TT_eq, TTl, Nat.reduceAdd, Nat.reduceMul, Nat.reduceSub, Nat.reduceDiv, Nat.reduceMod, Nat.reducePow, Nat.reduceEqDiff, ↓reduceIte, reduceCtorEq, Int.reduceToNat, Int.reduceAdd, Int.reduceSub, Int.reduceMul, os, ot, cellsL_one os, cellsL_one ot, c_bP, c_bQ, b13_selfA]
    refine ⟨fok6, alive13_cps _ hg _ fun w30 hM30 => .inl ⟨_, rfl, hold_ops okT (rs := [.tmp 4]) rfl ?_⟩⟩
    simp (maxSteps := 1000000) (disch := first | omega | (simp only [sizeAlloc, sizeDrew, sizeSet, sizePut] <;> omega) | fail) only [GS, TT_eq, TTl, Nat.reduceAdd, Nat.reduceMul, Nat.reduceSub, Nat.reduceDiv, Nat.reduceMod, Nat.reducePow, Nat.reduceEqDiff, ↓reduceIte, reduceCtorEq, Int.reduceToNat, Int.reduceAdd, Int.reduceSub, Int.reduceMul]
    exact hR _ (hM0.trans hM30 (by simp))
end Go.Proofs.YthnlmmkhehphiaaDoor
