/-
  EnvTells (walk).
-/
import Derived.Test.YthnlmmkhehphiaaGreatDoorEtEnvB
set_option linter.unusedSimpArgs false
set_option linter.unusedVariables false
set_option maxRecDepth 20000
namespace Go.Proofs.YthnlmmkhehphiaaGreatDoor
open Go Go.Wk Go.RowKit
attribute [local irreducible] go Hold
open Go.Lib
set_option maxRecDepth 20000 in
set_option maxHeartbeats 32000000 in
theorem tells20_cps (x : Ev) (t : List UInt8) (w : World) (hx0 : EvIn x) (ht : t.length ≤ maxLen) (hg : KG w) (R : Ending → World → Prop) (hR : ∀ w', Mod [] w w' → R (.returned (.bool true)) w') :
    Calls Tryz.prog 4 #[evV x, .string ⟨t.toArray⟩] w R := by
  have hLg := Long20_cps x hx0
  unfold evV evC at hLg ⊢
  refine calls_go 4000 okT Tryz.func4 rfl (rs := [.tmp 4]) rfl Tryz.ntmps4 (args := [.agg #[.int .i64 x.f, .int .i64 x.t, .int .i64 x.fe, .int .i64 x.te, .int .i64 x.no, .string ⟨x.body.toArray⟩, .string ⟨x.tag.toArray⟩], .string ⟨t.toArray⟩]) ?_
  simp (maxSteps := 1000000) (disch := first | omega | (simp only [sizeAlloc, sizeDrew, sizeSet, sizePut] <;> omega) | fail) only [GS, TT_eq, TTl, Nat.reduceAdd, Nat.reduceMul, Nat.reduceSub, Nat.reduceDiv, Nat.reduceMod, Nat.reducePow, Nat.reduceEqDiff, ↓reduceIte, reduceCtorEq, Int.reduceToNat, Int.reduceAdd, Int.reduceSub, Int.reduceMul]
  generalize hW : w.alloc (.cells #[.int .i64 x.f, .int .i64 x.t, .int .i64 x.fe, .int .i64 x.te, .int .i64 x.no, .string ⟨x.body.toArray⟩, .string ⟨x.tag.toArray⟩] 42) = w1
  obtain ⟨bP, hM0⟩ := bx7 hW
  clear hW
  replace hg := hg.mod hM0 (by simp)
  generalize w.heap.size = n at bP ⊢
  refine ⟨fok15, hLg _ _ fun  u1 hM_ => .inl ⟨_, rfl, hold_ops okT (rs := [.tmp 4]) rfl ?_⟩⟩
  replace hg := hg.mod hM_ (by simp)
  replace bP := hM_.get bP (by simp)
  replace hM0 := hM0.trans hM_ (by simp)
  cases hl : longE x
  rotate_left
  · simp (maxSteps := 1000000) (disch := first | omega | (simp only [sizeAlloc, sizeDrew, sizeSet, sizePut] <;> omega) | fail) only [GS, TT_eq, TTl, Nat.reduceAdd, Nat.reduceMul, Nat.reduceSub, Nat.reduceDiv, Nat.reduceMod, Nat.reducePow, Nat.reduceEqDiff, ↓reduceIte, reduceCtorEq, Int.reduceToNat, Int.reduceAdd, Int.reduceSub, Int.reduceMul]
    refine ⟨fok16, alive20_cps _ hg _ fun w30 hM30 => .inl ⟨_, rfl, hold_ops okT (rs := [.tmp 4]) rfl ?_⟩⟩
    simp (maxSteps := 1000000) (disch := first | omega | (simp only [sizeAlloc, sizeDrew, sizeSet, sizePut] <;> omega) | fail) only [GS, TT_eq, TTl, Nat.reduceAdd, Nat.reduceMul, Nat.reduceSub, Nat.reduceDiv, Nat.reduceMod, Nat.reducePow, Nat.reduceEqDiff, ↓reduceIte, reduceCtorEq, Int.reduceToNat, Int.reduceAdd, Int.reduceSub, Int.reduceMul]
    exact hR _ (hM0.trans hM30 (by simp))
  by_cases hlt : (20000 : Int) < ((t.length : Nat) : Int)
  · simp (maxSteps := 1000000) (disch := first | omega | (simp only [sizeAlloc, sizeDrew, sizeSet, sizePut] <;> omega) | fail) only [GS, TT_eq, TTl, Nat.reduceAdd, Nat.reduceMul, Nat.reduceSub, Nat.reduceDiv, Nat.reduceMod, Nat.reducePow, Nat.reduceEqDiff, ↓reduceIte, reduceCtorEq, Int.reduceToNat, Int.reduceAdd, Int.reduceSub, Int.reduceMul, hlt]
    refine ⟨fok16, alive20_cps _ hg _ fun w30 hM30 => .inl ⟨_, rfl, hold_ops okT (rs := [.tmp 4]) rfl ?_⟩⟩
    simp (maxSteps := 1000000) (disch := first | omega | (simp only [sizeAlloc, sizeDrew, sizeSet, sizePut] <;> omega) | fail) only [GS, TT_eq, TTl, Nat.reduceAdd, Nat.reduceMul, Nat.reduceSub, Nat.reduceDiv, Nat.reduceMod, Nat.reducePow, Nat.reduceEqDiff, ↓reduceIte, reduceCtorEq, Int.reduceToNat, Int.reduceAdd, Int.reduceSub, Int.reduceMul]
    exact hR _ (hM0.trans hM30 (by simp))
  have hx := longE_in hl
  have hHd := enHead_cps x hx
  have hHr := rHead20_cps x hx
  have hEn := enEnc_cps x hx
  have hEr := rEnc20_cps x hx
  have hDe := enDecode_cps t (by unfold maxLen; omega)
  have hDr := rDecode20_cps t (by unfold maxLen; omega)
  have hCk := enCheck_cps x hx
  have hMy := rMay20_cps x hx
  generalize headS x = D at *
  generalize encE x = N at *
  generalize mayE x = B at *
  generalize outE t = Q at *
  generalize (if isE t = true then (0 : Int) else 7) = I at *
  obtain ⟨D1, D2⟩ := D
  obtain ⟨N1, N2⟩ := N
  unfold evV evC at hHd hHr hEn hEr hDe hDr hCk hMy
  unfold stV at hHd hHr hEn hEr
  simp only at hHd hHr hEn hEr
  have c_bP := fun o => cellOf (o := o) bP
  simp (maxSteps := 1000000) (disch := first | omega | (simp only [sizeAlloc, sizeDrew, sizeSet, sizePut] <;> omega) | fail) only [GS, TT_eq, TTl, Nat.reduceAdd, Nat.reduceMul, Nat.reduceSub, Nat.reduceDiv, Nat.reduceMod, Nat.reducePow, Nat.reduceEqDiff, ↓reduceIte, reduceCtorEq, Int.reduceToNat, Int.reduceAdd, Int.reduceSub, Int.reduceMul, hlt, c_bP]
  refine ⟨fok17, hHd _ _ fun  u2 hM_ => .inl ⟨_, rfl, hold_ops okT (rs := [.tmp 4]) rfl ?_⟩⟩
  replace hg := hg.mod hM_ (by simp)
  replace bP := hM_.get bP (by simp)
  replace hM0 := hM0.trans hM_ (by simp)
  have c_bP := fun o => cellOf (o := o) bP
  simp (maxSteps := 1000000) (disch := first | omega | (simp only [sizeAlloc, sizeDrew, sizeSet, sizePut] <;> omega) | fail) only [GS, TT_eq, TTl, Nat.reduceAdd, Nat.reduceMul, Nat.reduceSub, Nat.reduceDiv, Nat.reduceMod, Nat.reducePow, Nat.reduceEqDiff, ↓reduceIte, reduceCtorEq, Int.reduceToNat, Int.reduceAdd, Int.reduceSub, Int.reduceMul, c_bP]
  refine ⟨fok18, hHr _ _ fun  u3 hM_ => .inl ⟨_, rfl, hold_ops okT (rs := [.tmp 4]) rfl ?_⟩⟩
  replace hg := hg.mod hM_ (by simp)
  replace bP := hM_.get bP (by simp)
  replace hM0 := hM0.trans hM_ (by simp)
  have c_bP := fun o => cellOf (o := o) bP
  simp (maxSteps := 1000000) (disch := first | omega | (simp only [sizeAlloc, sizeDrew, sizeSet, sizePut] <;> omega) | fail) only [GS, TT_eq, TTl, Nat.reduceAdd, Nat.reduceMul, Nat.reduceSub, Nat.reduceDiv, Nat.reduceMod, Nat.reducePow, Nat.reduceEqDiff, ↓reduceIte, reduceCtorEq, Int.reduceToNat, Int.reduceAdd, Int.reduceSub, Int.reduceMul, c_bP]
  refine ⟨fok19, hEn _ _ fun  u4 hM_ => .inl ⟨_, rfl, hold_ops okT (rs := [.tmp 4]) rfl ?_⟩⟩
  replace hg := hg.mod hM_ (by simp)
  replace bP := hM_.get bP (by simp)
  replace hM0 := hM0.trans hM_ (by simp)
  have c_bP := fun o => cellOf (o := o) bP
  simp (maxSteps := 1000000) (disch := first | omega | (simp only [sizeAlloc, sizeDrew, sizeSet, sizePut] <;> omega) | fail) only [GS, TT_eq, TTl, Nat.reduceAdd, Nat.reduceMul, Nat.reduceSub, Nat.reduceDiv, Nat.reduceMod, Nat.reducePow, Nat.reduceEqDiff, ↓reduceIte, reduceCtorEq, Int.reduceToNat, Int.reduceAdd, Int.reduceSub, Int.reduceMul, c_bP]
  refine ⟨fok20, hEr _ _ fun  u5 hM_ => .inl ⟨_, rfl, hold_ops okT (rs := [.tmp 4]) rfl ?_⟩⟩
  replace hg := hg.mod hM_ (by simp)
  replace bP := hM_.get bP (by simp)
  replace hM0 := hM0.trans hM_ (by simp)
  have c_bP := fun o => cellOf (o := o) bP
  simp (maxSteps := 1000000) (disch := first | omega | (simp only [sizeAlloc, sizeDrew, sizeSet, sizePut] <;> omega) | fail) only [GS, TT_eq, TTl, Nat.reduceAdd, Nat.reduceMul, Nat.reduceSub, Nat.reduceDiv, Nat.reduceMod, Nat.reducePow, Nat.reduceEqDiff, ↓reduceIte, reduceCtorEq, Int.reduceToNat, Int.reduceAdd, Int.reduceSub, Int.reduceMul, c_bP]
  refine ⟨fok21, hDe _ _ fun  u6 hM_ => .inl ⟨_, rfl, hold_stop (s' := some 8) (hold_ops okT (rs := [.tmp 4]) rfl ?_)⟩⟩
  replace hg := hg.mod hM_ (by simp)
  replace bP := hM_.get bP (by simp)
  replace hM0 := hM0.trans hM_ (by simp)
  have c_bP := fun o => cellOf (o := o) bP
  simp (maxSteps := 1000000) (disch := first | omega | (simp only [sizeAlloc, sizeDrew, sizeSet, sizePut] <;> omega) | fail) only [GS, TT_eq, TTl, Nat.reduceAdd, Nat.reduceMul, Nat.reduceSub, Nat.reduceDiv, Nat.reduceMod, Nat.reducePow, Nat.reduceEqDiff, ↓reduceIte, reduceCtorEq, Int.reduceToNat, Int.reduceAdd, Int.reduceSub, Int.reduceMul, c_bP]
  generalize hW_ : ((((((((u6.alloc (.cells #[.int .i64 0, .int .i64 0, .int .i64 0, .int .i64 0, .int .i64 0, .string ⟨#[]⟩, .string ⟨#[]⟩] 42)).setCell ⟨u6.heap.size, 0, none⟩ (.int .i64 Q.f)).setCell ⟨u6.heap.size, 1, none⟩ (.int .i64 Q.t)).setCell ⟨u6.heap.size, 2, none⟩ (.int .i64 Q.fe)).setCell ⟨u6.heap.size, 3, none⟩ (.int .i64 Q.te)).setCell ⟨u6.heap.size, 4, none⟩ (.int .i64 Q.no)).setCell ⟨u6.heap.size, 5, none⟩ (.string ⟨Q.body.toArray⟩)).setCell ⟨u6.heap.size, 6, none⟩ (.string ⟨Q.tag.toArray⟩)) = u7
  obtain ⟨bU, hM_⟩ : u7.heap[u6.heap.size]? = some (.cells #[.int .i64 Q.f, .int .i64 Q.t, .int .i64 Q.fe, .int .i64 Q.te, .int .i64 Q.no, .string ⟨Q.body.toArray⟩, .string ⟨Q.tag.toArray⟩] 42 (0, 0)) ∧ Mod [] u6 u7 := by
    subst hW_
    exact ⟨st7z heapNew, modSet7z ((Mod.refl [] u6).alloc _) (.inr (Nat.le_refl _))⟩
  clear hW_
  replace hg := hg.mod hM_ (by simp)
  replace bP := hM_.get bP (by simp)
  replace hM0 := hM0.trans hM_ (by simp)
  generalize u6.heap.size = qu at *
  refine hold_stop (s' := none) ?_
  refine hold_code okT (rs := [.tmp 4]) rfl ?_
  have c_bP := fun o => cellOf (o := o) bP
  have c_bU := fun o => cellOf (o := o) bU
  simp (maxSteps := 1000000) (disch := first | omega | (simp only [sizeAlloc, sizeDrew, sizeSet, sizePut] <;> omega) | fail) only [GS, TT_eq, TTl, Nat.reduceAdd, Nat.reduceMul, Nat.reduceSub, Nat.reduceDiv, Nat.reduceMod, Nat.reducePow, Nat.reduceEqDiff, ↓reduceIte, reduceCtorEq, Int.reduceToNat, Int.reduceAdd, Int.reduceSub, Int.reduceMul, c_bP, c_bU]
  refine ⟨fok22, hDr _ _ fun  u8 hM_ => .inl ⟨_, rfl, hold_stop (s' := some 9) (hold_ops okT (rs := [.tmp 4]) rfl ?_)⟩⟩
  replace hg := hg.mod hM_ (by simp)
  replace bP := hM_.get bP (by simp)
  replace hM0 := hM0.trans hM_ (by simp)
  replace bU := hM_.get bU (by simp)
  have c_bP := fun o => cellOf (o := o) bP
  have c_bU := fun o => cellOf (o := o) bU
  simp (maxSteps := 1000000) (disch := first | omega | (simp only [sizeAlloc, sizeDrew, sizeSet, sizePut] <;> omega) | fail) only [GS, TT_eq, TTl, Nat.reduceAdd, Nat.reduceMul, Nat.reduceSub, Nat.reduceDiv, Nat.reduceMod, Nat.reducePow, Nat.reduceEqDiff, ↓reduceIte, reduceCtorEq, Int.reduceToNat, Int.reduceAdd, Int.reduceSub, Int.reduceMul, c_bP, c_bU]
  generalize hW_ : ((((((((u8.alloc (.cells #[.int .i64 0, .int .i64 0, .int .i64 0, .int .i64 0, .int .i64 0, .string ⟨#[]⟩, .string ⟨#[]⟩] 42)).setCell ⟨u8.heap.size, 0, none⟩ (.int .i64 Q.f)).setCell ⟨u8.heap.size, 1, none⟩ (.int .i64 Q.t)).setCell ⟨u8.heap.size, 2, none⟩ (.int .i64 Q.fe)).setCell ⟨u8.heap.size, 3, none⟩ (.int .i64 Q.te)).setCell ⟨u8.heap.size, 4, none⟩ (.int .i64 Q.no)).setCell ⟨u8.heap.size, 5, none⟩ (.string ⟨Q.body.toArray⟩)).setCell ⟨u8.heap.size, 6, none⟩ (.string ⟨Q.tag.toArray⟩)) = u9
  obtain ⟨bV, hM_⟩ : u9.heap[u8.heap.size]? = some (.cells #[.int .i64 Q.f, .int .i64 Q.t, .int .i64 Q.fe, .int .i64 Q.te, .int .i64 Q.no, .string ⟨Q.body.toArray⟩, .string ⟨Q.tag.toArray⟩] 42 (0, 0)) ∧ Mod [] u8 u9 := by
    subst hW_
    exact ⟨st7z heapNew, modSet7z ((Mod.refl [] u8).alloc _) (.inr (Nat.le_refl _))⟩
  clear hW_
  replace hg := hg.mod hM_ (by simp)
  replace bP := hM_.get bP (by simp)
  replace hM0 := hM0.trans hM_ (by simp)
  replace bU := hM_.get bU (by simp)
  generalize u8.heap.size = qv at *
  refine hold_stop (s' := none) ?_
  refine hold_code okT (rs := [.tmp 4]) rfl ?_
  have c_bP := fun o => cellOf (o := o) bP
  have c_bU := fun o => cellOf (o := o) bU
  have c_bV := fun o => cellOf (o := o) bV
  simp (maxSteps := 1000000) (disch := first | omega | (simp only [sizeAlloc, sizeDrew, sizeSet, sizePut] <;> omega) | fail) only [GS, TT_eq, TTl, Nat.reduceAdd, Nat.reduceMul, Nat.reduceSub, Nat.reduceDiv, Nat.reduceMod, Nat.reducePow, Nat.reduceEqDiff, ↓reduceIte, reduceCtorEq, Int.reduceToNat, Int.reduceAdd, Int.reduceSub, Int.reduceMul, c_bP, c_bU, c_bV]
  refine ⟨fok23, hCk _ _ fun  u10 hM_ => .inl ⟨_, rfl, hold_ops okT (rs := [.tmp 4]) rfl ?_⟩⟩
  replace hg := hg.mod hM_ (by simp)
  replace bP := hM_.get bP (by simp)
  replace hM0 := hM0.trans hM_ (by simp)
  replace bU := hM_.get bU (by simp)
  replace bV := hM_.get bV (by simp)
  have b2s : ∀ b : Bool, beq2 b b = true := fun b => by cases b <;> rfl
  cases B
  · simp only [Bool.false_eq_true, if_false, if_true]
    have c_bP := fun o => cellOf (o := o) bP
    have c_bU := fun o => cellOf (o := o) bU
    have c_bV := fun o => cellOf (o := o) bV
    simp (maxSteps := 1000000) (disch := first | omega | (simp only [sizeAlloc, sizeDrew, sizeSet, sizePut] <;> omega) | fail) only [GS, TT_eq, TTl, Nat.reduceAdd, Nat.reduceMul, Nat.reduceSub, Nat.reduceDiv, Nat.reduceMod, Nat.reducePow, Nat.reduceEqDiff, ↓reduceIte, reduceCtorEq, Int.reduceToNat, Int.reduceAdd, Int.reduceSub, Int.reduceMul, eq_self, b2s, c_bP, c_bU, c_bV]
    refine ⟨fok24, hMy _ _ fun  u11 hM_ => .inl ⟨_, rfl, hold_ops okT (rs := [.tmp 4]) rfl ?_⟩⟩
    replace hg := hg.mod hM_ (by simp)
    replace bP := hM_.get bP (by simp)
    replace hM0 := hM0.trans hM_ (by simp)
    replace bU := hM_.get bU (by simp)
    replace bV := hM_.get bV (by simp)
    have c_bP := fun o => cellOf (o := o) bP
    have c_bU := fun o => cellOf (o := o) bU
    have c_bV := fun o => cellOf (o := o) bV
    simp (maxSteps := 1000000) (disch := first | omega | (simp only [sizeAlloc, sizeDrew, sizeSet, sizePut] <;> omega) | fail) only [GS, TT_eq, TTl, Nat.reduceAdd, Nat.reduceMul, Nat.reduceSub, Nat.reduceDiv, Nat.reduceMod, Nat.reducePow, Nat.reduceEqDiff, ↓reduceIte, reduceCtorEq, Int.reduceToNat, Int.reduceAdd, Int.reduceSub, Int.reduceMul, eq_self, b2s, c_bP, c_bU, c_bV]
    refine ⟨fok16, alive20_cps _ hg _ fun w30 hM30 => .inl ⟨_, rfl, hold_ops okT (rs := [.tmp 4]) rfl ?_⟩⟩
    simp (maxSteps := 1000000) (disch := first | omega | (simp only [sizeAlloc, sizeDrew, sizeSet, sizePut] <;> omega) | fail) only [GS, TT_eq, TTl, Nat.reduceAdd, Nat.reduceMul, Nat.reduceSub, Nat.reduceDiv, Nat.reduceMod, Nat.reducePow, Nat.reduceEqDiff, ↓reduceIte, reduceCtorEq, Int.reduceToNat, Int.reduceAdd, Int.reduceSub, Int.reduceMul]
    exact hR _ (hM0.trans hM30 (by simp))
  · simp only [if_true]
    have c_bP := fun o => cellOf (o := o) bP
    have c_bU := fun o => cellOf (o := o) bU
    have c_bV := fun o => cellOf (o := o) bV
    simp (maxSteps := 1000000) (disch := first | omega | (simp only [sizeAlloc, sizeDrew, sizeSet, sizePut] <;> omega) | fail) only [GS, TT_eq, TTl, Nat.reduceAdd, Nat.reduceMul, Nat.reduceSub, Nat.reduceDiv, Nat.reduceMod, Nat.reducePow, Nat.reduceEqDiff, ↓reduceIte, reduceCtorEq, Int.reduceToNat, Int.reduceAdd, Int.reduceSub, Int.reduceMul, eq_self, b2s, c_bP, c_bU, c_bV]
    refine ⟨fok24, hMy _ _ fun  u11 hM_ => .inl ⟨_, rfl, hold_ops okT (rs := [.tmp 4]) rfl ?_⟩⟩
    replace hg := hg.mod hM_ (by simp)
    replace bP := hM_.get bP (by simp)
    replace hM0 := hM0.trans hM_ (by simp)
    replace bU := hM_.get bU (by simp)
    replace bV := hM_.get bV (by simp)
    have c_bP := fun o => cellOf (o := o) bP
    have c_bU := fun o => cellOf (o := o) bU
    have c_bV := fun o => cellOf (o := o) bV
    simp (maxSteps := 1000000) (disch := first | omega | (simp only [sizeAlloc, sizeDrew, sizeSet, sizePut] <;> omega) | fail) only [GS, TT_eq, TTl, Nat.reduceAdd, Nat.reduceMul, Nat.reduceSub, Nat.reduceDiv, Nat.reduceMod, Nat.reducePow, Nat.reduceEqDiff, ↓reduceIte, reduceCtorEq, Int.reduceToNat, Int.reduceAdd, Int.reduceSub, Int.reduceMul, eq_self, b2s, c_bP, c_bU, c_bV]
    refine ⟨fok16, alive20_cps _ hg _ fun w30 hM30 => .inl ⟨_, rfl, hold_ops okT (rs := [.tmp 4]) rfl ?_⟩⟩
    simp (maxSteps := 1000000) (disch := first | omega | (simp only [sizeAlloc, sizeDrew, sizeSet, sizePut] <;> omega) | fail) only [GS, TT_eq, TTl, Nat.reduceAdd, Nat.reduceMul, Nat.reduceSub, Nat.reduceDiv, Nat.reduceMod, Nat.reducePow, Nat.reduceEqDiff, ↓reduceIte, reduceCtorEq, Int.reduceToNat, Int.reduceAdd, Int.reduceSub, Int.reduceMul]
    exact hR _ (hM0.trans hM30 (by simp))
end Go.Proofs.YthnlmmkhehphiaaGreatDoor
