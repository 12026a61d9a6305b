/-
  chirographlaw20.alive (walk).
-/
import Derived.Test.YthnlmmkhehphiaaGreatDoorEaEnvA
set_option linter.unusedSimpArgs false
set_option linter.unusedVariables false
set_option maxRecDepth 20000
namespace Go.Proofs.YthnlmmkhehphiaaGreatDoor
open Go Go.Wk Go.RowKit
attribute [local irreducible] go Hold
open Go.Lib
theorem alHd : headS E1 = ([114, 7, 100, 3, 101, 110, 118, 100, 1, 0, 100, 1, 1, 100, 1, 1, 100, 1, 2, 100, 1, 3, 100, 0], 0) := by decide +kernel
def TE : List UInt8 := (etagS E1).1
theorem alTg20 : etagS E1 = (TE, 0) := by
  have : (etagS E1).2 = 0 := by decide +kernel
  rw [← this]
  rfl
def E1t : Ev := ⟨0, 1, 1, 2, 3, [100, 0], TE⟩
def E1z : Ev := ⟨1, 1, 1, 2, 3, [100, 0], TE⟩
def UE : List UInt8 := (encE E1t).1
theorem alEn20 : encE E1t = (UE, 0) := by
  have : (encE E1t).2 = 0 := by decide +kernel
  rw [← this]
  rfl
theorem alHz : headS E1z = ([], 2) := by decide +kernel
theorem alNe20 : ¬ TE = [] := by decide +kernel
theorem alUl : UE.length ≤ maxLen := by have := encE_len E1t; unfold UE maxLen; omega
theorem alEv {l : List UInt8} (h : l.length ≤ 1000000) (f : Int) : EvIn ⟨f, 1, 1, 2, 3, [100, 0], l⟩ := ⟨by unfold maxLen; simp, by unfold maxLen; simp only; omega⟩
theorem alTl : TE.length ≤ 1000000 := by have := etag_len E1; unfold TE; omega
set_option maxRecDepth 20000 in
set_option maxHeartbeats 32000000 in
theorem alive20_cps (w : World) (hg : KG w) (R : Ending → World → Prop) (hR : ∀ w', Mod [] w w' → R (.returned (.bool true)) w') :
    Calls Tryz.prog 16 #[] w R := by
  refine calls_go 4000 okT Tryz.func16 rfl (rs := [.tmp 0]) rfl Tryz.ntmps16 (args := []) ?_
  have hM0 := Mod.refl [] w
  have hO := one20_cps
  have hHd := enHead_cps E1 (alEv (l := []) (by simp) 0)
  have hHz := enHead_cps E1z (alEv alTl 1)
  have hTg := fun s => eTag_cps s E1 (alEv (l := []) (by simp) 0)
  have hEn := enEnc_cps E1t (alEv alTl 0)
  have hDe := enDecode_cps UE alUl
  have hFt := fun s => eFits_cps s E1t (alEv alTl 0)
  have hFo := fun s => eFits_cps s E1 (alEv (l := []) (by simp) 0)
  rw [alHd] at hHd
  rw [alHz] at hHz
  rw [alTg20] at hTg hFo
  rw [alEn20] at hEn
  rw [(is_of alEn20).1, (is_of alEn20).2] at hDe
  rw [show etagS E1t = etagS E1 from rfl, alTg20] at hFt
  rw [show E1t.tag = TE from rfl] at hFt
  rw [show E1.tag = [] from rfl] at hFo
  simp only [decide_true, decide_eq_false alNe20, Bool.true_and] at hFt hFo
  unfold evV evC E1 at hO hHd hTg hFo
  unfold evV evC E1t at hEn hDe hFt
  unfold evV evC E1z at hHz
  unfold stV at hHd hTg hEn hHz
  simp only [if_true] at hO hHd hHz hTg hEn hDe hFt hFo
  simp (maxSteps := 1000000) (disch := first | omega | (simp only [sizeAlloc, sizeDrew, sizeSet, sizePut] <;> omega) | fail) only [GS, TT_eq, TTl, Nat.reduceAdd, Nat.reduceMul, Nat.reduceSub, Nat.reduceDiv, Nat.reduceMod, Nat.reducePow, Nat.reduceEqDiff, ↓reduceIte, reduceCtorEq, Int.reduceToNat, Int.reduceAdd, Int.reduceSub, Int.reduceMul]
  refine ⟨fok10, sNew_cps [] w _ fun s u1 hs hM_ => .inl ⟨_, rfl, hold_ops okT (rs := [.tmp 0]) rfl ?_⟩⟩
  replace hg := hg.mod hM_ (by simp)
  replace hM0 := hM0.trans hM_ (by simp)
  simp (maxSteps := 1000000) (disch := first | omega | (simp only [sizeAlloc, sizeDrew, sizeSet, sizePut] <;> omega) | fail) only [GS, TT_eq, TTl, Nat.reduceAdd, Nat.reduceMul, Nat.reduceSub, Nat.reduceDiv, Nat.reduceMod, Nat.reducePow, Nat.reduceEqDiff, ↓reduceIte, reduceCtorEq, Int.reduceToNat, Int.reduceAdd, Int.reduceSub, Int.reduceMul]
  refine ⟨fok46, hO _ _ fun  u2 hM_ => .inl ⟨_, rfl, hold_ops okT (rs := [.tmp 0]) rfl ?_⟩⟩
  replace hg := hg.mod hM_ (by simp)
  replace hs := hs.mod hM_
  replace hM0 := hM0.trans hM_ (by simp)
  simp (maxSteps := 1000000) (disch := first | omega | (simp only [sizeAlloc, sizeDrew, sizeSet, sizePut] <;> omega) | fail) only [GS, TT_eq, TTl, Nat.reduceAdd, Nat.reduceMul, Nat.reduceSub, Nat.reduceDiv, Nat.reduceMod, Nat.reducePow, Nat.reduceEqDiff, ↓reduceIte, reduceCtorEq, Int.reduceToNat, Int.reduceAdd, Int.reduceSub, Int.reduceMul]
  refine ⟨fok17, hHd _ _ fun  u3 hM_ => .inl ⟨_, rfl, hold_ops okT (rs := [.tmp 0]) rfl ?_⟩⟩
  replace hg := hg.mod hM_ (by simp)
  replace hs := hs.mod hM_
  replace hM0 := hM0.trans hM_ (by simp)
  simp (maxSteps := 1000000) (disch := first | omega | (simp only [sizeAlloc, sizeDrew, sizeSet, sizePut] <;> omega) | fail) only [GS, TT_eq, TTl, Nat.reduceAdd, Nat.reduceMul, Nat.reduceSub, Nat.reduceDiv, Nat.reduceMod, Nat.reducePow, Nat.reduceEqDiff, ↓reduceIte, reduceCtorEq, Int.reduceToNat, Int.reduceAdd, Int.reduceSub, Int.reduceMul]
  refine ⟨fok46, hO _ _ fun  u4 hM_ => .inl ⟨_, rfl, hold_stop (s' := some 4) (hold_ops okT (rs := [.tmp 0]) rfl ?_)⟩⟩
  replace hg := hg.mod hM_ (by simp)
  replace hs := hs.mod hM_
  replace hM0 := hM0.trans hM_ (by simp)
  simp (maxSteps := 1000000) (disch := first | omega | (simp only [sizeAlloc, sizeDrew, sizeSet, sizePut] <;> omega) | fail) only [GS, TT_eq, TTl, Nat.reduceAdd, Nat.reduceMul, Nat.reduceSub, Nat.reduceDiv, Nat.reduceMod, Nat.reducePow, Nat.reduceEqDiff, ↓reduceIte, reduceCtorEq, Int.reduceToNat, Int.reduceAdd, Int.reduceSub, Int.reduceMul]
  have hxw := hM0.size
  have hsx : s < u4.heap.size := (Array.getElem?_eq_some_iff.1 hs).1
  have hgx := hg.lt
  generalize hW_ : ((((((((u4.alloc (.cells #[.int .i64 0, .int .i64 0, .int .i64 0, .int .i64 0, .int .i64 0, .string ⟨#[]⟩, .string ⟨#[]⟩] 42)).setCell ⟨u4.heap.size, 0, none⟩ (.int .i64 0)).setCell ⟨u4.heap.size, 1, none⟩ (.int .i64 1)).setCell ⟨u4.heap.size, 2, none⟩ (.int .i64 1)).setCell ⟨u4.heap.size, 3, none⟩ (.int .i64 2)).setCell ⟨u4.heap.size, 4, none⟩ (.int .i64 3)).setCell ⟨u4.heap.size, 5, none⟩ (.string ⟨#[100, 0]⟩)).setCell ⟨u4.heap.size, 6, none⟩ (.string ⟨#[]⟩)) = u5
  obtain ⟨bX, hM_⟩ : u5.heap[u4.heap.size]? = some (.cells #[.int .i64 0, .int .i64 1, .int .i64 1, .int .i64 2, .int .i64 3, .string ⟨#[100, 0]⟩, .string ⟨#[]⟩] 42 (0, 0)) ∧ Mod [] u4 u5 := by
    subst hW_
    exact ⟨st7z heapNew, modSet7z ((Mod.refl [] u4).alloc _) (.inr (Nat.le_refl _))⟩
  clear hW_
  replace hg := hg.mod hM_ (by simp)
  replace hs := hs.mod hM_
  replace hM0 := hM0.trans hM_ (by simp)
  generalize u4.heap.size = qx at *
  refine hold_stop (s' := none) ?_
  refine hold_code okT (rs := [.tmp 0]) rfl ?_
  have c_bX := fun o => cellOf (o := o) bX
  simp (maxSteps := 1000000) (disch := first | omega | (simp only [sizeAlloc, sizeDrew, sizeSet, sizePut] <;> omega) | fail) only [GS, TT_eq, TTl, Nat.reduceAdd, Nat.reduceMul, Nat.reduceSub, Nat.reduceDiv, Nat.reduceMod, Nat.reducePow, Nat.reduceEqDiff, ↓reduceIte, reduceCtorEq, Int.reduceToNat, Int.reduceAdd, Int.reduceSub, Int.reduceMul, c_bX]
  refine ⟨fok25, hTg s _ hs hg _ fun  u6 hM_ => .inl ⟨_, rfl, hold_stop (s' := some 6) (hold_ops okT (rs := [.tmp 0]) rfl ?_)⟩⟩
  replace hg := hg.mod hM_ (by simp)
  replace hs := hs.mod hM_
  replace hM0 := hM0.trans hM_ (by simp)
  replace bX := hM_.get bX (by simp)
  have c_bX := fun o => cellOf (o := o) bX
  have x_bX := fun o => frozenOf (o := o) bX
  simp (maxSteps := 1000000) (disch := first | omega | (simp only [sizeAlloc, sizeDrew, sizeSet, sizePut] <;> omega) | fail) only [GS, TT_eq, TTl, Nat.reduceAdd, Nat.reduceMul, Nat.reduceSub, Nat.reduceDiv, Nat.reduceMod, Nat.reducePow, Nat.reduceEqDiff, ↓reduceIte, reduceCtorEq, Int.reduceToNat, Int.reduceAdd, Int.reduceSub, Int.reduceMul, c_bX, x_bX]
  have h1 : (u6.setCell ⟨qx, 6, none⟩ (.string ⟨TE.toArray⟩)).heap[qx]? = some (.cells #[.int .i64 0, .int .i64 1, .int .i64 1, .int .i64 2, .int .i64 3, .string ⟨#[100, 0]⟩, .string ⟨TE.toArray⟩] 42 (0, 0)) := by rw [heapSet bX]; rfl
  have hM_ : Mod [qx] u6 (u6.setCell ⟨qx, 6, none⟩ (.string ⟨TE.toArray⟩)) := (Mod.refl [qx] u6).set (p := ⟨qx, 6, none⟩) (.inl (by simp)) _
  generalize u6.setCell ⟨qx, 6, none⟩ (.string ⟨TE.toArray⟩) = u7 at *
  clear bX c_bX x_bX
  replace hM0 := hM0.trans hM_ (by intro y hy; simp at hy; right; omega)
  replace hg := hg.mod hM_ (by simp; omega)
  replace hs : isSui u7 s := hM_.get hs (by simp; omega)
  clear hM_
  have bX := h1
  clear h1
  refine hold_stop (s' := none) ?_
  refine hold_code okT (rs := [.tmp 0]) rfl ?_
  have c_bX := fun o => cellOf (o := o) bX
  simp (maxSteps := 1000000) (disch := first | omega | (simp only [sizeAlloc, sizeDrew, sizeSet, sizePut] <;> omega) | fail) only [GS, TT_eq, TTl, Nat.reduceAdd, Nat.reduceMul, Nat.reduceSub, Nat.reduceDiv, Nat.reduceMod, Nat.reducePow, Nat.reduceEqDiff, ↓reduceIte, reduceCtorEq, Int.reduceToNat, Int.reduceAdd, Int.reduceSub, Int.reduceMul, c_bX]
  refine ⟨fok19, hEn _ _ fun  u8 hM_ => .inl ⟨_, rfl, hold_ops okT (rs := [.tmp 0]) rfl ?_⟩⟩
  replace hg := hg.mod hM_ (by simp)
  replace hs := hs.mod hM_
  replace hM0 := hM0.trans hM_ (by simp)
  replace bX := hM_.get bX (by simp)
  have c_bX := fun o => cellOf (o := o) bX
  simp (maxSteps := 1000000) (disch := first | omega | (simp only [sizeAlloc, sizeDrew, sizeSet, sizePut] <;> omega) | fail) only [GS, TT_eq, TTl, Nat.reduceAdd, Nat.reduceMul, Nat.reduceSub, Nat.reduceDiv, Nat.reduceMod, Nat.reducePow, Nat.reduceEqDiff, ↓reduceIte, reduceCtorEq, Int.reduceToNat, Int.reduceAdd, Int.reduceSub, Int.reduceMul, c_bX]
  refine ⟨fok21, hDe _ _ fun  u9 hM_ => .inl ⟨_, rfl, hold_stop (s' := some 8) (hold_ops okT (rs := [.tmp 0]) rfl ?_)⟩⟩
  replace hg := hg.mod hM_ (by simp)
  replace hs := hs.mod hM_
  replace hM0 := hM0.trans hM_ (by simp)
  replace bX := hM_.get bX (by simp)
  have c_bX := fun o => cellOf (o := o) bX
  simp (maxSteps := 1000000) (disch := first | omega | (simp only [sizeAlloc, sizeDrew, sizeSet, sizePut] <;> omega) | fail) only [GS, TT_eq, TTl, Nat.reduceAdd, Nat.reduceMul, Nat.reduceSub, Nat.reduceDiv, Nat.reduceMod, Nat.reducePow, Nat.reduceEqDiff, ↓reduceIte, reduceCtorEq, Int.reduceToNat, Int.reduceAdd, Int.reduceSub, Int.reduceMul, c_bX]
  generalize hW_ : ((((((((u9.alloc (.cells #[.int .i64 0, .int .i64 0, .int .i64 0, .int .i64 0, .int .i64 0, .string ⟨#[]⟩, .string ⟨#[]⟩] 42)).setCell ⟨u9.heap.size, 0, none⟩ (.int .i64 0)).setCell ⟨u9.heap.size, 1, none⟩ (.int .i64 1)).setCell ⟨u9.heap.size, 2, none⟩ (.int .i64 1)).setCell ⟨u9.heap.size, 3, none⟩ (.int .i64 2)).setCell ⟨u9.heap.size, 4, none⟩ (.int .i64 3)).setCell ⟨u9.heap.size, 5, none⟩ (.string ⟨#[100, 0]⟩)).setCell ⟨u9.heap.size, 6, none⟩ (.string ⟨TE.toArray⟩)) = u10
  obtain ⟨bY, hM_⟩ : u10.heap[u9.heap.size]? = some (.cells #[.int .i64 0, .int .i64 1, .int .i64 1, .int .i64 2, .int .i64 3, .string ⟨#[100, 0]⟩, .string ⟨TE.toArray⟩] 42 (0, 0)) ∧ Mod [] u9 u10 := by
    subst hW_
    exact ⟨st7z heapNew, modSet7z ((Mod.refl [] u9).alloc _) (.inr (Nat.le_refl _))⟩
  clear hW_
  replace hg := hg.mod hM_ (by simp)
  replace hs := hs.mod hM_
  replace hM0 := hM0.trans hM_ (by simp)
  replace bX := hM_.get bX (by simp)
  generalize u9.heap.size = qy at *
  refine hold_stop (s' := some 10) ?_
  refine hold_code okT (rs := [.tmp 0]) rfl ?_
  have c_bX := fun o => cellOf (o := o) bX
  have c_bY := fun o => cellOf (o := o) bY
  simp (maxSteps := 1000000) (disch := first | omega | (simp only [sizeAlloc, sizeDrew, sizeSet, sizePut] <;> omega) | fail) only [GS, TT_eq, TTl, Nat.reduceAdd, Nat.reduceMul, Nat.reduceSub, Nat.reduceDiv, Nat.reduceMod, Nat.reducePow, Nat.reduceEqDiff, ↓reduceIte, reduceCtorEq, Int.reduceToNat, Int.reduceAdd, Int.reduceSub, Int.reduceMul, c_bX, c_bY]
  generalize hW_ : (((((((((u10.alloc (.cells #[.int .i64 0, .int .i64 0, .int .i64 0, .int .i64 0, .int .i64 0, .string ⟨#[]⟩, .string ⟨#[]⟩] 42)).setCell ⟨u10.heap.size, 0, none⟩ (.int .i64 0)).setCell ⟨u10.heap.size, 1, none⟩ (.int .i64 1)).setCell ⟨u10.heap.size, 2, none⟩ (.int .i64 1)).setCell ⟨u10.heap.size, 3, none⟩ (.int .i64 2)).setCell ⟨u10.heap.size, 4, none⟩ (.int .i64 3)).setCell ⟨u10.heap.size, 5, none⟩ (.string ⟨#[100, 0]⟩)).setCell ⟨u10.heap.size, 6, none⟩ (.string ⟨TE.toArray⟩)).setCell ⟨u10.heap.size, 0, none⟩ (.int .i64 1)) = u11
  obtain ⟨bZ, hM_⟩ : u11.heap[u10.heap.size]? = some (.cells #[.int .i64 1, .int .i64 1, .int .i64 1, .int .i64 2, .int .i64 3, .string ⟨#[100, 0]⟩, .string ⟨TE.toArray⟩] 42 (0, 0)) ∧ Mod [] u10 u11 := by
    subst hW_
    have h1 := st7z (x0 := .int .i64 0) (x1 := .int .i64 1) (x2 := .int .i64 1) (x3 := .int .i64 2) (x4 := .int .i64 3) (x5 := .string ⟨#[100, 0]⟩) (x6 := .string ⟨TE.toArray⟩) (heapNew (w := u10) (o := (.cells #[.int .i64 0, .int .i64 0, .int .i64 0, .int .i64 0, .int .i64 0, .string ⟨#[]⟩, .string ⟨#[]⟩] 42)))
    refine ⟨?_, (modSet7z ((Mod.refl [] u10).alloc _) (.inr (Nat.le_refl _))).set (p := ⟨u10.heap.size, 0, none⟩) (.inr (Nat.le_refl _)) (.int .i64 1)⟩
    rw [heapSet h1]
    rfl
  clear hW_
  replace hg := hg.mod hM_ (by simp)
  replace hs := hs.mod hM_
  replace hM0 := hM0.trans hM_ (by simp)
  replace bX := hM_.get bX (by simp)
  replace bY := hM_.get bY (by simp)
  generalize u10.heap.size = qz at *
  refine hold_stop (s' := none) ?_
  refine hold_code okT (rs := [.tmp 0]) rfl ?_
  have c_bX := fun o => cellOf (o := o) bX
  have c_bY := fun o => cellOf (o := o) bY
  have c_bZ := fun o => cellOf (o := o) bZ
  simp (maxSteps := 1000000) (disch := first | omega | (simp only [sizeAlloc, sizeDrew, sizeSet, sizePut] <;> omega) | fail) only [GS, TT_eq, TTl, Nat.reduceAdd, Nat.reduceMul, Nat.reduceSub, Nat.reduceDiv, Nat.reduceMod, Nat.reducePow, Nat.reduceEqDiff, ↓reduceIte, reduceCtorEq, Int.reduceToNat, Int.reduceAdd, Int.reduceSub, Int.reduceMul, c_bX, c_bY, c_bZ]
  refine ⟨fok17, hHz _ _ fun  u12 hM_ => .inl ⟨_, rfl, hold_ops okT (rs := [.tmp 0]) rfl ?_⟩⟩
  replace hg := hg.mod hM_ (by simp)
  replace hs := hs.mod hM_
  replace hM0 := hM0.trans hM_ (by simp)
  replace bX := hM_.get bX (by simp)
  replace bY := hM_.get bY (by simp)
  replace bZ := hM_.get bZ (by simp)
  have c_bX := fun o => cellOf (o := o) bX
  have c_bY := fun o => cellOf (o := o) bY
  have c_bZ := fun o => cellOf (o := o) bZ
  simp (maxSteps := 1000000) (disch := first | omega | (simp only [sizeAlloc, sizeDrew, sizeSet, sizePut] <;> omega) | fail) only [GS, TT_eq, TTl, Nat.reduceAdd, Nat.reduceMul, Nat.reduceSub, Nat.reduceDiv, Nat.reduceMod, Nat.reducePow, Nat.reduceEqDiff, ↓reduceIte, reduceCtorEq, Int.reduceToNat, Int.reduceAdd, Int.reduceSub, Int.reduceMul, eq_self, c_bX, c_bY, c_bZ]
  refine ⟨fok26, hFt s _ hs hg _ fun  u13 hM_ => .inl ⟨_, rfl, hold_ops okT (rs := [.tmp 0]) rfl ?_⟩⟩
  replace hg := hg.mod hM_ (by simp)
  replace hs := hs.mod hM_
  replace hM0 := hM0.trans hM_ (by simp)
  replace bX := hM_.get bX (by simp)
  replace bY := hM_.get bY (by simp)
  replace bZ := hM_.get bZ (by simp)
  have c_bX := fun o => cellOf (o := o) bX
  have c_bY := fun o => cellOf (o := o) bY
  have c_bZ := fun o => cellOf (o := o) bZ
  simp (maxSteps := 1000000) (disch := first | omega | (simp only [sizeAlloc, sizeDrew, sizeSet, sizePut] <;> omega) | fail) only [GS, TT_eq, TTl, Nat.reduceAdd, Nat.reduceMul, Nat.reduceSub, Nat.reduceDiv, Nat.reduceMod, Nat.reducePow, Nat.reduceEqDiff, ↓reduceIte, reduceCtorEq, Int.reduceToNat, Int.reduceAdd, Int.reduceSub, Int.reduceMul, eq_self, c_bX, c_bY, c_bZ]
  refine ⟨fok46, hO _ _ fun  u14 hM_ => .inl ⟨_, rfl, hold_ops okT (rs := [.tmp 0]) rfl ?_⟩⟩
  replace hg := hg.mod hM_ (by simp)
  replace hs := hs.mod hM_
  replace hM0 := hM0.trans hM_ (by simp)
  replace bX := hM_.get bX (by simp)
  replace bY := hM_.get bY (by simp)
  replace bZ := hM_.get bZ (by simp)
  have c_bX := fun o => cellOf (o := o) bX
  have c_bY := fun o => cellOf (o := o) bY
  have c_bZ := fun o => cellOf (o := o) bZ
  simp (maxSteps := 1000000) (disch := first | omega | (simp only [sizeAlloc, sizeDrew, sizeSet, sizePut] <;> omega) | fail) only [GS, TT_eq, TTl, Nat.reduceAdd, Nat.reduceMul, Nat.reduceSub, Nat.reduceDiv, Nat.reduceMod, Nat.reducePow, Nat.reduceEqDiff, ↓reduceIte, reduceCtorEq, Int.reduceToNat, Int.reduceAdd, Int.reduceSub, Int.reduceMul, eq_self, c_bX, c_bY, c_bZ]
  refine ⟨fok26, hFo s _ hs hg _ fun  u15 hM_ => .inl ⟨_, rfl, hold_ops okT (rs := [.tmp 0]) rfl ?_⟩⟩
  replace hg := hg.mod hM_ (by simp)
  replace hs := hs.mod hM_
  replace hM0 := hM0.trans hM_ (by simp)
  replace bX := hM_.get bX (by simp)
  replace bY := hM_.get bY (by simp)
  replace bZ := hM_.get bZ (by simp)
  have c_bX := fun o => cellOf (o := o) bX
  have c_bY := fun o => cellOf (o := o) bY
  have c_bZ := fun o => cellOf (o := o) bZ
  simp (maxSteps := 1000000) (disch := first | omega | (simp only [sizeAlloc, sizeDrew, sizeSet, sizePut] <;> omega) | fail) only [GS, TT_eq, TTl, Nat.reduceAdd, Nat.reduceMul, Nat.reduceSub, Nat.reduceDiv, Nat.reduceMod, Nat.reducePow, Nat.reduceEqDiff, ↓reduceIte, reduceCtorEq, Int.reduceToNat, Int.reduceAdd, Int.reduceSub, Int.reduceMul, eq_self, c_bX, c_bY, c_bZ]
  exact hR _ hM0
end Go.Proofs.YthnlmmkhehphiaaGreatDoor
