/-
  EnvBack (walk).
-/
import Derived.Test.YthnlmmkhehphiaaDoorEbEnvB
set_option linter.unusedSimpArgs false
set_option linter.unusedVariables false
set_option maxRecDepth 20000
namespace Go.Proofs.YthnlmmkhehphiaaDoor
open Go Go.Wk Go.RowKit
attribute [local irreducible] go Hold
open Go.Lib
theorem two7b {w W : World} {A B : Obj} (h : (w.alloc A).alloc B = W) : W.heap[w.heap.size]? = some A ∧ W.heap[w.heap.size + 1]? = some B ∧ Mod [] w W := by
  obtain ⟨h1, h2, h3, -⟩ := two7 h
  exact ⟨h1, h2, h3⟩
theorem outE_in (t : List UInt8) : EvIn (outE t) := by
  unfold outE
  split
  · rename_i h
    have h1 := (of_decide_eq_true h).2.2
    obtain ⟨h2, -⟩ := enc_may h1
    obtain ⟨h3, h4⟩ := mayE_is h2
    have h5 := (check0 (mayH_is h3).2.2).2.2.1
    have h6 := (check0 h4).2.2.1
    exact ⟨by unfold maxLen; omega, by unfold maxLen; omega⟩
  · exact ⟨by unfold ev0 maxLen; simp, by unfold ev0 maxLen; simp⟩
theorem ev_eq7 {x y : Ev} : x = y ↔ (x.f = y.f ∧ x.t = y.t ∧ x.fe = y.fe ∧ x.te = y.te ∧ x.no = y.no ∧ x.body = y.body ∧ x.tag = y.tag) := by
  constructor
  · rintro rfl; exact ⟨rfl, rfl, rfl, rfl, rfl, rfl, rfl⟩
  · obtain ⟨f, t, fe, te, no, body, tag⟩ := x
    obtain ⟨f', t', fe', te', no', body', tag'⟩ := y
    simp only [Ev.mk.injEq]
    exact id
theorem ev_ne7 {x y : Ev} (h : ¬ x = y) : bnd (decide (x.f = y.f)) (bnd (decide (x.t = y.t)) (bnd (decide (x.fe = y.fe)) (bnd (decide (x.te = y.te)) (bnd (decide (x.no = y.no)) (bnd (decide (x.body = y.body)) (bnd (decide (x.tag = y.tag)) true)))))) = false := by
  have hb : ∀ a b : Bool, bnd a b = (a && b) := by decide
  simp only [hb, Bool.and_true]
  rw [Bool.eq_false_iff]
  intro g
  simp only [Bool.and_eq_true, decide_eq_true_eq] at g
  exact h (ev_eq7.2 g)
set_option maxRecDepth 20000 in
set_option maxHeartbeats 64000000 in
theorem back20_cps (t : List UInt8) (x y : Ev) (w : World) (ht : t.length ≤ maxLen) (hx0 : EvIn x) (hy0 : EvIn y) (hg : KG w) (R : Ending → World → Prop) (hR : ∀ w', Mod [] w w' → R (.returned (.bool true)) w') :
    Calls Tryd.prog 4 #[.string ⟨t.toArray⟩, evV x, evV y] w R := by
  have hLx := Long20_cps x hx0
  have hLy := Long20_cps y hy0
  unfold evV evC at hLx hLy ⊢
  refine calls_go 4000 okT Tryd.func4 rfl (rs := [.tmp 6]) rfl Tryd.ntmps4 (args := [.string ⟨t.toArray⟩, .agg #[.int .i64 x.f, .int .i64 x.t, .int .i64 x.fe, .int .i64 x.te, .int .i64 x.no, .string ⟨x.body.toArray⟩, .string ⟨x.tag.toArray⟩], .agg #[.int .i64 y.f, .int .i64 y.t, .int .i64 y.fe, .int .i64 y.te, .int .i64 y.no, .string ⟨y.body.toArray⟩, .string ⟨y.tag.toArray⟩]]) ?_
  simp (maxSteps := 1000000) (disch := first | omega | (simp only [sizeAlloc, sizeDrew, sizeSet, sizePut] <;> omega) | fail) only [GS, TT_eq, TTl, Nat.reduceAdd, Nat.reduceMul, Nat.reduceSub, Nat.reduceDiv, Nat.reduceMod, Nat.reducePow, Nat.reduceEqDiff, ↓reduceIte, reduceCtorEq, Int.reduceToNat, Int.reduceAdd, Int.reduceSub, Int.reduceMul]
  generalize hW : (w.alloc (.cells #[.int .i64 x.f, .int .i64 x.t, .int .i64 x.fe, .int .i64 x.te, .int .i64 x.no, .string ⟨x.body.toArray⟩, .string ⟨x.tag.toArray⟩] 38)).alloc (.cells #[.int .i64 y.f, .int .i64 y.t, .int .i64 y.fe, .int .i64 y.te, .int .i64 y.no, .string ⟨y.body.toArray⟩, .string ⟨y.tag.toArray⟩] 38) = w1
  obtain ⟨bP, bQ, hM0⟩ := two7b hW
  clear hW
  replace hg := hg.mod hM0 (by simp)
  generalize w.heap.size = n at bP bQ ⊢
  refine ⟨fok11, hLx _ _ fun  u1 hM_ => .inl ⟨_, rfl, hold_ops okT (rs := [.tmp 6]) rfl ?_⟩⟩
  replace hg := hg.mod hM_ (by simp)
  replace bP := hM_.get bP (by simp)
  replace bQ := hM_.get bQ (by simp)
  replace hM0 := hM0.trans hM_ (by simp)
  cases hlx : longE x
  rotate_left
  · simp (maxSteps := 1000000) (disch := first | omega | (simp only [sizeAlloc, sizeDrew, sizeSet, sizePut] <;> omega) | fail) only [GS, TT_eq, TTl, Nat.reduceAdd, Nat.reduceMul, Nat.reduceSub, Nat.reduceDiv, Nat.reduceMod, Nat.reducePow, Nat.reduceEqDiff, ↓reduceIte, reduceCtorEq, Int.reduceToNat, Int.reduceAdd, Int.reduceSub, Int.reduceMul]
    refine ⟨fok12, alive20_cps _ hg _ fun w30 hM30 => .inl ⟨_, rfl, hold_ops okT (rs := [.tmp 6]) rfl ?_⟩⟩
    simp (maxSteps := 1000000) (disch := first | omega | (simp only [sizeAlloc, sizeDrew, sizeSet, sizePut] <;> omega) | fail) only [GS, TT_eq, TTl, Nat.reduceAdd, Nat.reduceMul, Nat.reduceSub, Nat.reduceDiv, Nat.reduceMod, Nat.reducePow, Nat.reduceEqDiff, ↓reduceIte, reduceCtorEq, Int.reduceToNat, Int.reduceAdd, Int.reduceSub, Int.reduceMul]
    exact hR _ (hM0.trans hM30 (by simp))
  have c_bP := fun o => cellOf (o := o) bP
  have c_bQ := fun o => cellOf (o := o) bQ
  simp (maxSteps := 1000000) (disch := first | omega | (simp only [sizeAlloc, sizeDrew, sizeSet, sizePut] <;> omega) | fail) only [GS, TT_eq, TTl, Nat.reduceAdd, Nat.reduceMul, Nat.reduceSub, Nat.reduceDiv, Nat.reduceMod, Nat.reducePow, Nat.reduceEqDiff, ↓reduceIte, reduceCtorEq, Int.reduceToNat, Int.reduceAdd, Int.reduceSub, Int.reduceMul, c_bP, c_bQ]
  refine ⟨fok11, hLy _ _ fun  u2 hM_ => .inl ⟨_, rfl, hold_ops okT (rs := [.tmp 6]) rfl ?_⟩⟩
  replace hg := hg.mod hM_ (by simp)
  replace bP := hM_.get bP (by simp)
  replace bQ := hM_.get bQ (by simp)
  replace hM0 := hM0.trans hM_ (by simp)
  cases hly : longE y
  rotate_left
  · simp (maxSteps := 1000000) (disch := first | omega | (simp only [sizeAlloc, sizeDrew, sizeSet, sizePut] <;> omega) | fail) only [GS, TT_eq, TTl, Nat.reduceAdd, Nat.reduceMul, Nat.reduceSub, Nat.reduceDiv, Nat.reduceMod, Nat.reducePow, Nat.reduceEqDiff, ↓reduceIte, reduceCtorEq, Int.reduceToNat, Int.reduceAdd, Int.reduceSub, Int.reduceMul]
    refine ⟨fok12, alive20_cps _ hg _ fun w30 hM30 => .inl ⟨_, rfl, hold_ops okT (rs := [.tmp 6]) rfl ?_⟩⟩
    simp (maxSteps := 1000000) (disch := first | omega | (simp only [sizeAlloc, sizeDrew, sizeSet, sizePut] <;> omega) | fail) only [GS, TT_eq, TTl, Nat.reduceAdd, Nat.reduceMul, Nat.reduceSub, Nat.reduceDiv, Nat.reduceMod, Nat.reducePow, Nat.reduceEqDiff, ↓reduceIte, reduceCtorEq, Int.reduceToNat, Int.reduceAdd, Int.reduceSub, Int.reduceMul]
    exact hR _ (hM0.trans hM30 (by simp))
  by_cases hlt : (20000 : Int) < ((t.length : Nat) : Int)
  · simp (maxSteps := 1000000) (disch := first | omega | (simp only [sizeAlloc, sizeDrew, sizeSet, sizePut] <;> omega) | fail) only [GS, TT_eq, TTl, Nat.reduceAdd, Nat.reduceMul, Nat.reduceSub, Nat.reduceDiv, Nat.reduceMod, Nat.reducePow, Nat.reduceEqDiff, ↓reduceIte, reduceCtorEq, Int.reduceToNat, Int.reduceAdd, Int.reduceSub, Int.reduceMul, hlt]
    refine ⟨fok12, alive20_cps _ hg _ fun w30 hM30 => .inl ⟨_, rfl, hold_ops okT (rs := [.tmp 6]) rfl ?_⟩⟩
    simp (maxSteps := 1000000) (disch := first | omega | (simp only [sizeAlloc, sizeDrew, sizeSet, sizePut] <;> omega) | fail) only [GS, TT_eq, TTl, Nat.reduceAdd, Nat.reduceMul, Nat.reduceSub, Nat.reduceDiv, Nat.reduceMod, Nat.reducePow, Nat.reduceEqDiff, ↓reduceIte, reduceCtorEq, Int.reduceToNat, Int.reduceAdd, Int.reduceSub, Int.reduceMul]
    exact hR _ (hM0.trans hM30 (by simp))
  have hx := longE_in hlx
  have hy := longE_in hly
  have hEx := enEnc_cps x hx
  have hEy := enEnc_cps y hy
  have hEt := enEnc_cps (outE t) (outE_in t)
  have hDt := enDecode_cps t (by unfold maxLen; omega)
  have hDx := enDecode_cps (encE x).1 (by have := encE_len x; unfold maxLen; omega)
  have hio := @is_of x (encE x).1
  have hinj := @env_inj x y
  have hie := @is_enc t
  have ho0 : isE t = false → outE t = ev0 := fun h => by unfold outE; rw [h]; rfl
  generalize outE t = Q at *
  generalize encE Q = NQ at *
  generalize isE t = I at *
  have hxye : x = y → encE x = encE y := fun h => by rw [h]
  generalize encE x = NX at *
  generalize encE y = NY at *
  obtain ⟨A, E⟩ := NX
  obtain ⟨B, F⟩ := NY
  unfold evV evC at hEx hEy hEt hDt hDx
  unfold stV at hEx hEy hEt
  simp only at hEx hEy hEt hDt hDx hio
  have b2s : ∀ b : Bool, beq2 b b = true := fun b => by cases b <;> rfl
  have c_bP := fun o => cellOf (o := o) bP
  have c_bQ := fun o => cellOf (o := o) bQ
  simp (maxSteps := 1000000) (disch := first | omega | (simp only [sizeAlloc, sizeDrew, sizeSet, sizePut] <;> omega) | fail) only [GS, TT_eq, TTl, Nat.reduceAdd, Nat.reduceMul, Nat.reduceSub, Nat.reduceDiv, Nat.reduceMod, Nat.reducePow, Nat.reduceEqDiff, ↓reduceIte, reduceCtorEq, Int.reduceToNat, Int.reduceAdd, Int.reduceSub, Int.reduceMul, hlt, c_bP, c_bQ]
  refine ⟨fok13, hEx _ _ fun  u3 hM_ => .inl ⟨_, rfl, hold_ops okT (rs := [.tmp 6]) rfl ?_⟩⟩
  replace hg := hg.mod hM_ (by simp)
  replace bP := hM_.get bP (by simp)
  replace bQ := hM_.get bQ (by simp)
  replace hM0 := hM0.trans hM_ (by simp)
  have c_bP := fun o => cellOf (o := o) bP
  have c_bQ := fun o => cellOf (o := o) bQ
  simp (maxSteps := 1000000) (disch := first | omega | (simp only [sizeAlloc, sizeDrew, sizeSet, sizePut] <;> omega) | fail) only [GS, TT_eq, TTl, Nat.reduceAdd, Nat.reduceMul, Nat.reduceSub, Nat.reduceDiv, Nat.reduceMod, Nat.reducePow, Nat.reduceEqDiff, ↓reduceIte, reduceCtorEq, Int.reduceToNat, Int.reduceAdd, Int.reduceSub, Int.reduceMul, c_bP, c_bQ]
  refine ⟨fok13, hEy _ _ fun  u4 hM_ => .inl ⟨_, rfl, hold_ops okT (rs := [.tmp 6]) rfl ?_⟩⟩
  replace hg := hg.mod hM_ (by simp)
  replace bP := hM_.get bP (by simp)
  replace bQ := hM_.get bQ (by simp)
  replace hM0 := hM0.trans hM_ (by simp)
  have c_bP := fun o => cellOf (o := o) bP
  have c_bQ := fun o => cellOf (o := o) bQ
  simp (maxSteps := 1000000) (disch := first | omega | (simp only [sizeAlloc, sizeDrew, sizeSet, sizePut] <;> omega) | fail) only [GS, TT_eq, TTl, Nat.reduceAdd, Nat.reduceMul, Nat.reduceSub, Nat.reduceDiv, Nat.reduceMod, Nat.reducePow, Nat.reduceEqDiff, ↓reduceIte, reduceCtorEq, Int.reduceToNat, Int.reduceAdd, Int.reduceSub, Int.reduceMul, c_bP, c_bQ]
  by_cases hE : E = 0
  rotate_left
  ·
    have c_bP := fun o => cellOf (o := o) bP
    have c_bQ := fun o => cellOf (o := o) bQ
    simp (maxSteps := 1000000) (disch := first | omega | (simp only [sizeAlloc, sizeDrew, sizeSet, sizePut] <;> omega) | fail) only [GS, TT_eq, TTl, Nat.reduceAdd, Nat.reduceMul, Nat.reduceSub, Nat.reduceDiv, Nat.reduceMod, Nat.reducePow, Nat.reduceEqDiff, ↓reduceIte, reduceCtorEq, Int.reduceToNat, Int.reduceAdd, Int.reduceSub, Int.reduceMul, hE, c_bP, c_bQ]
    refine ⟨fok14, hDt _ _ fun  u5 hM_ => .inl ⟨_, rfl, hold_stop (s' := some 12) (hold_ops okT (rs := [.tmp 6]) rfl ?_)⟩⟩
    replace hg := hg.mod hM_ (by simp)
    replace bP := hM_.get bP (by simp)
    replace bQ := hM_.get bQ (by simp)
    replace hM0 := hM0.trans hM_ (by simp)
    have c_bP := fun o => cellOf (o := o) bP
    have c_bQ := fun o => cellOf (o := o) bQ
    simp (maxSteps := 1000000) (disch := first | omega | (simp only [sizeAlloc, sizeDrew, sizeSet, sizePut] <;> omega) | fail) only [GS, TT_eq, TTl, Nat.reduceAdd, Nat.reduceMul, Nat.reduceSub, Nat.reduceDiv, Nat.reduceMod, Nat.reducePow, Nat.reduceEqDiff, ↓reduceIte, reduceCtorEq, Int.reduceToNat, Int.reduceAdd, Int.reduceSub, Int.reduceMul, c_bP, c_bQ]
    generalize hW_ : ((((((((u5.alloc (.cells #[.int .i64 0, .int .i64 0, .int .i64 0, .int .i64 0, .int .i64 0, .string ⟨#[]⟩, .string ⟨#[]⟩] 38)).setCell ⟨u5.heap.size, 0, none⟩ (.int .i64 Q.f)).setCell ⟨u5.heap.size, 1, none⟩ (.int .i64 Q.t)).setCell ⟨u5.heap.size, 2, none⟩ (.int .i64 Q.fe)).setCell ⟨u5.heap.size, 3, none⟩ (.int .i64 Q.te)).setCell ⟨u5.heap.size, 4, none⟩ (.int .i64 Q.no)).setCell ⟨u5.heap.size, 5, none⟩ (.string ⟨Q.body.toArray⟩)).setCell ⟨u5.heap.size, 6, none⟩ (.string ⟨Q.tag.toArray⟩)) = u6
    obtain ⟨bT, hM_⟩ : u6.heap[u5.heap.size]? = some (.cells #[.int .i64 Q.f, .int .i64 Q.t, .int .i64 Q.fe, .int .i64 Q.te, .int .i64 Q.no, .string ⟨Q.body.toArray⟩, .string ⟨Q.tag.toArray⟩] 38 (0, 0)) ∧ Mod [] u5 u6 := by
      subst hW_
      exact ⟨st7z heapNew, modSet7z ((Mod.refl [] u5).alloc _) (.inr (Nat.le_refl _))⟩
    clear hW_
    replace hg := hg.mod hM_ (by simp)
    replace bP := hM_.get bP (by simp)
    replace bQ := hM_.get bQ (by simp)
    replace hM0 := hM0.trans hM_ (by simp)
    generalize u5.heap.size = qt at *
    cases I
    · simp only [Bool.false_eq_true, if_false]
      have hQ := ho0 rfl
      subst hQ
      unfold ev0 at bT
      simp only at bT
      refine hold_stop (s' := none) ?_
      refine hold_code okT (rs := [.tmp 6]) rfl ?_
      have c_bP := fun o => cellOf (o := o) bP
      have c_bQ := fun o => cellOf (o := o) bQ
      have c_bT := fun o => cellOf (o := o) bT
      simp (maxSteps := 1000000) (disch := first | omega | (simp only [sizeAlloc, sizeDrew, sizeSet, sizePut] <;> omega) | fail) only [GS, TT_eq, TTl, Nat.reduceAdd, Nat.reduceMul, Nat.reduceSub, Nat.reduceDiv, Nat.reduceMod, Nat.reducePow, Nat.reduceEqDiff, ↓reduceIte, reduceCtorEq, Int.reduceToNat, Int.reduceAdd, Int.reduceSub, Int.reduceMul, eq_self, c_bP, c_bQ, c_bT]
      refine ⟨fok12, alive20_cps _ hg _ fun w30 hM30 => .inl ⟨_, rfl, hold_ops okT (rs := [.tmp 6]) rfl ?_⟩⟩
      simp (maxSteps := 1000000) (disch := first | omega | (simp only [sizeAlloc, sizeDrew, sizeSet, sizePut] <;> omega) | fail) only [GS, TT_eq, TTl, Nat.reduceAdd, Nat.reduceMul, Nat.reduceSub, Nat.reduceDiv, Nat.reduceMod, Nat.reducePow, Nat.reduceEqDiff, ↓reduceIte, reduceCtorEq, Int.reduceToNat, Int.reduceAdd, Int.reduceSub, Int.reduceMul]
      exact hR _ (hM0.trans hM30 (by simp))
    · simp only [if_true]
      have hN := hie rfl
      rw [hN] at hEt
      simp only at hEt
      refine hold_stop (s' := none) ?_
      refine hold_code okT (rs := [.tmp 6]) rfl ?_
      have c_bP := fun o => cellOf (o := o) bP
      have c_bQ := fun o => cellOf (o := o) bQ
      have c_bT := fun o => cellOf (o := o) bT
      simp (maxSteps := 1000000) (disch := first | omega | (simp only [sizeAlloc, sizeDrew, sizeSet, sizePut] <;> omega) | fail) only [GS, TT_eq, TTl, Nat.reduceAdd, Nat.reduceMul, Nat.reduceSub, Nat.reduceDiv, Nat.reduceMod, Nat.reducePow, Nat.reduceEqDiff, ↓reduceIte, reduceCtorEq, Int.reduceToNat, Int.reduceAdd, Int.reduceSub, Int.reduceMul, c_bP, c_bQ, c_bT]
      refine ⟨fok13, hEt _ _ fun  u7 hM_ => .inl ⟨_, rfl, hold_ops okT (rs := [.tmp 6]) rfl ?_⟩⟩
      replace hg := hg.mod hM_ (by simp)
      replace bP := hM_.get bP (by simp)
      replace bQ := hM_.get bQ (by simp)
      replace hM0 := hM0.trans hM_ (by simp)
      replace bT := hM_.get bT (by simp)
      have c_bP := fun o => cellOf (o := o) bP
      have c_bQ := fun o => cellOf (o := o) bQ
      have c_bT := fun o => cellOf (o := o) bT
      simp (maxSteps := 1000000) (disch := first | omega | (simp only [sizeAlloc, sizeDrew, sizeSet, sizePut] <;> omega) | fail) only [GS, TT_eq, TTl, Nat.reduceAdd, Nat.reduceMul, Nat.reduceSub, Nat.reduceDiv, Nat.reduceMod, Nat.reducePow, Nat.reduceEqDiff, ↓reduceIte, reduceCtorEq, Int.reduceToNat, Int.reduceAdd, Int.reduceSub, Int.reduceMul, eq_self, c_bP, c_bQ, c_bT]
      refine ⟨fok12, alive20_cps _ hg _ fun w30 hM30 => .inl ⟨_, rfl, hold_ops okT (rs := [.tmp 6]) rfl ?_⟩⟩
      simp (maxSteps := 1000000) (disch := first | omega | (simp only [sizeAlloc, sizeDrew, sizeSet, sizePut] <;> omega) | fail) only [GS, TT_eq, TTl, Nat.reduceAdd, Nat.reduceMul, Nat.reduceSub, Nat.reduceDiv, Nat.reduceMod, Nat.reducePow, Nat.reduceEqDiff, ↓reduceIte, reduceCtorEq, Int.reduceToNat, Int.reduceAdd, Int.reduceSub, Int.reduceMul]
      exact hR _ (hM0.trans hM30 (by simp))
  subst hE
  by_cases hF : F = 0
  rotate_left
  ·
    have c_bP := fun o => cellOf (o := o) bP
    have c_bQ := fun o => cellOf (o := o) bQ
    simp (maxSteps := 1000000) (disch := first | omega | (simp only [sizeAlloc, sizeDrew, sizeSet, sizePut] <;> omega) | fail) only [GS, TT_eq, TTl, Nat.reduceAdd, Nat.reduceMul, Nat.reduceSub, Nat.reduceDiv, Nat.reduceMod, Nat.reducePow, Nat.reduceEqDiff, ↓reduceIte, reduceCtorEq, Int.reduceToNat, Int.reduceAdd, Int.reduceSub, Int.reduceMul, hF, c_bP, c_bQ]
    obtain ⟨hI, hO⟩ := hio rfl
    rw [hI, hO] at hDx
    simp only [if_true] at hDx
    refine ⟨fok14, hDx _ _ fun  u5 hM_ => .inl ⟨_, rfl, hold_stop (s' := some 9) (hold_ops okT (rs := [.tmp 6]) rfl ?_)⟩⟩
    replace hg := hg.mod hM_ (by simp)
    replace bP := hM_.get bP (by simp)
    replace bQ := hM_.get bQ (by simp)
    replace hM0 := hM0.trans hM_ (by simp)
    have c_bP := fun o => cellOf (o := o) bP
    have c_bQ := fun o => cellOf (o := o) bQ
    simp (maxSteps := 1000000) (disch := first | omega | (simp only [sizeAlloc, sizeDrew, sizeSet, sizePut] <;> omega) | fail) only [GS, TT_eq, TTl, Nat.reduceAdd, Nat.reduceMul, Nat.reduceSub, Nat.reduceDiv, Nat.reduceMod, Nat.reducePow, Nat.reduceEqDiff, ↓reduceIte, reduceCtorEq, Int.reduceToNat, Int.reduceAdd, Int.reduceSub, Int.reduceMul, c_bP, c_bQ]
    generalize hW_ : ((((((((u5.alloc (.cells #[.int .i64 0, .int .i64 0, .int .i64 0, .int .i64 0, .int .i64 0, .string ⟨#[]⟩, .string ⟨#[]⟩] 38)).setCell ⟨u5.heap.size, 0, none⟩ (.int .i64 x.f)).setCell ⟨u5.heap.size, 1, none⟩ (.int .i64 x.t)).setCell ⟨u5.heap.size, 2, none⟩ (.int .i64 x.fe)).setCell ⟨u5.heap.size, 3, none⟩ (.int .i64 x.te)).setCell ⟨u5.heap.size, 4, none⟩ (.int .i64 x.no)).setCell ⟨u5.heap.size, 5, none⟩ (.string ⟨x.body.toArray⟩)).setCell ⟨u5.heap.size, 6, none⟩ (.string ⟨x.tag.toArray⟩)) = u6
    obtain ⟨bD, hM_⟩ : u6.heap[u5.heap.size]? = some (.cells #[.int .i64 x.f, .int .i64 x.t, .int .i64 x.fe, .int .i64 x.te, .int .i64 x.no, .string ⟨x.body.toArray⟩, .string ⟨x.tag.toArray⟩] 38 (0, 0)) ∧ Mod [] u5 u6 := by
      subst hW_
      exact ⟨st7z heapNew, modSet7z ((Mod.refl [] u5).alloc _) (.inr (Nat.le_refl _))⟩
    clear hW_
    replace hg := hg.mod hM_ (by simp)
    replace bP := hM_.get bP (by simp)
    replace bQ := hM_.get bQ (by simp)
    replace hM0 := hM0.trans hM_ (by simp)
    generalize u5.heap.size = qd at *
    refine hold_stop (s' := none) ?_
    refine hold_code okT (rs := [.tmp 6]) rfl ?_
    have c_bP := fun o => cellOf (o := o) bP
    have c_bQ := fun o => cellOf (o := o) bQ
    have c_bD := fun o => cellOf (o := o) bD
    simp (maxSteps := 1000000) (disch := first | omega | (simp only [sizeAlloc, sizeDrew, sizeSet, sizePut] <;> omega) | fail) only [GS, TT_eq, TTl, Nat.reduceAdd, Nat.reduceMul, Nat.reduceSub, Nat.reduceDiv, Nat.reduceMod, Nat.reducePow, Nat.reduceEqDiff, ↓reduceIte, reduceCtorEq, Int.reduceToNat, Int.reduceAdd, Int.reduceSub, Int.reduceMul, eq_self, c_bP, c_bQ, c_bD]
    refine ⟨fok14, hDt _ _ fun  u7 hM_ => .inl ⟨_, rfl, hold_stop (s' := some 12) (hold_ops okT (rs := [.tmp 6]) rfl ?_)⟩⟩
    replace hg := hg.mod hM_ (by simp)
    replace bP := hM_.get bP (by simp)
    replace bQ := hM_.get bQ (by simp)
    replace hM0 := hM0.trans hM_ (by simp)
    replace bD := hM_.get bD (by simp)
    have c_bP := fun o => cellOf (o := o) bP
    have c_bQ := fun o => cellOf (o := o) bQ
    have c_bD := fun o => cellOf (o := o) bD
    simp (maxSteps := 1000000) (disch := first | omega | (simp only [sizeAlloc, sizeDrew, sizeSet, sizePut] <;> omega) | fail) only [GS, TT_eq, TTl, Nat.reduceAdd, Nat.reduceMul, Nat.reduceSub, Nat.reduceDiv, Nat.reduceMod, Nat.reducePow, Nat.reduceEqDiff, ↓reduceIte, reduceCtorEq, Int.reduceToNat, Int.reduceAdd, Int.reduceSub, Int.reduceMul, c_bP, c_bQ, c_bD]
    generalize hW_ : ((((((((u7.alloc (.cells #[.int .i64 0, .int .i64 0, .int .i64 0, .int .i64 0, .int .i64 0, .string ⟨#[]⟩, .string ⟨#[]⟩] 38)).setCell ⟨u7.heap.size, 0, none⟩ (.int .i64 Q.f)).setCell ⟨u7.heap.size, 1, none⟩ (.int .i64 Q.t)).setCell ⟨u7.heap.size, 2, none⟩ (.int .i64 Q.fe)).setCell ⟨u7.heap.size, 3, none⟩ (.int .i64 Q.te)).setCell ⟨u7.heap.size, 4, none⟩ (.int .i64 Q.no)).setCell ⟨u7.heap.size, 5, none⟩ (.string ⟨Q.body.toArray⟩)).setCell ⟨u7.heap.size, 6, none⟩ (.string ⟨Q.tag.toArray⟩)) = u8
    obtain ⟨bT, hM_⟩ : u8.heap[u7.heap.size]? = some (.cells #[.int .i64 Q.f, .int .i64 Q.t, .int .i64 Q.fe, .int .i64 Q.te, .int .i64 Q.no, .string ⟨Q.body.toArray⟩, .string ⟨Q.tag.toArray⟩] 38 (0, 0)) ∧ Mod [] u7 u8 := by
      subst hW_
      exact ⟨st7z heapNew, modSet7z ((Mod.refl [] u7).alloc _) (.inr (Nat.le_refl _))⟩
    clear hW_
    replace hg := hg.mod hM_ (by simp)
    replace bP := hM_.get bP (by simp)
    replace bQ := hM_.get bQ (by simp)
    replace hM0 := hM0.trans hM_ (by simp)
    replace bD := hM_.get bD (by simp)
    generalize u7.heap.size = qt at *
    cases I
    · simp only [Bool.false_eq_true, if_false]
      have hQ := ho0 rfl
      subst hQ
      unfold ev0 at bT
      simp only at bT
      refine hold_stop (s' := none) ?_
      refine hold_code okT (rs := [.tmp 6]) rfl ?_
      have c_bP := fun o => cellOf (o := o) bP
      have c_bQ := fun o => cellOf (o := o) bQ
      have c_bD := fun o => cellOf (o := o) bD
      have c_bT := fun o => cellOf (o := o) bT
      simp (maxSteps := 1000000) (disch := first | omega | (simp only [sizeAlloc, sizeDrew, sizeSet, sizePut] <;> omega) | fail) only [GS, TT_eq, TTl, Nat.reduceAdd, Nat.reduceMul, Nat.reduceSub, Nat.reduceDiv, Nat.reduceMod, Nat.reducePow, Nat.reduceEqDiff, ↓reduceIte, reduceCtorEq, Int.reduceToNat, Int.reduceAdd, Int.reduceSub, Int.reduceMul, eq_self, c_bP, c_bQ, c_bD, c_bT]
      refine ⟨fok12, alive20_cps _ hg _ fun w30 hM30 => .inl ⟨_, rfl, hold_ops okT (rs := [.tmp 6]) rfl ?_⟩⟩
      simp (maxSteps := 1000000) (disch := first | omega | (simp only [sizeAlloc, sizeDrew, sizeSet, sizePut] <;> omega) | fail) only [GS, TT_eq, TTl, Nat.reduceAdd, Nat.reduceMul, Nat.reduceSub, Nat.reduceDiv, Nat.reduceMod, Nat.reducePow, Nat.reduceEqDiff, ↓reduceIte, reduceCtorEq, Int.reduceToNat, Int.reduceAdd, Int.reduceSub, Int.reduceMul]
      exact hR _ (hM0.trans hM30 (by simp))
    · simp only [if_true]
      have hN := hie rfl
      rw [hN] at hEt
      simp only at hEt
      refine hold_stop (s' := none) ?_
      refine hold_code okT (rs := [.tmp 6]) rfl ?_
      have c_bP := fun o => cellOf (o := o) bP
      have c_bQ := fun o => cellOf (o := o) bQ
      have c_bD := fun o => cellOf (o := o) bD
      have c_bT := fun o => cellOf (o := o) bT
      simp (maxSteps := 1000000) (disch := first | omega | (simp only [sizeAlloc, sizeDrew, sizeSet, sizePut] <;> omega) | fail) only [GS, TT_eq, TTl, Nat.reduceAdd, Nat.reduceMul, Nat.reduceSub, Nat.reduceDiv, Nat.reduceMod, Nat.reducePow, Nat.reduceEqDiff, ↓reduceIte, reduceCtorEq, Int.reduceToNat, Int.reduceAdd, Int.reduceSub, Int.reduceMul, c_bP, c_bQ, c_bD, c_bT]
      refine ⟨fok13, hEt _ _ fun  u9 hM_ => .inl ⟨_, rfl, hold_ops okT (rs := [.tmp 6]) rfl ?_⟩⟩
      replace hg := hg.mod hM_ (by simp)
      replace bP := hM_.get bP (by simp)
      replace bQ := hM_.get bQ (by simp)
      replace hM0 := hM0.trans hM_ (by simp)
      replace bD := hM_.get bD (by simp)
      replace bT := hM_.get bT (by simp)
      have c_bP := fun o => cellOf (o := o) bP
      have c_bQ := fun o => cellOf (o := o) bQ
      have c_bD := fun o => cellOf (o := o) bD
      have c_bT := fun o => cellOf (o := o) bT
      simp (maxSteps := 1000000) (disch := first | omega | (simp only [sizeAlloc, sizeDrew, sizeSet, sizePut] <;> omega) | fail) only [GS, TT_eq, TTl, Nat.reduceAdd, Nat.reduceMul, Nat.reduceSub, Nat.reduceDiv, Nat.reduceMod, Nat.reducePow, Nat.reduceEqDiff, ↓reduceIte, reduceCtorEq, Int.reduceToNat, Int.reduceAdd, Int.reduceSub, Int.reduceMul, eq_self, c_bP, c_bQ, c_bD, c_bT]
      refine ⟨fok12, alive20_cps _ hg _ fun w30 hM30 => .inl ⟨_, rfl, hold_ops okT (rs := [.tmp 6]) rfl ?_⟩⟩
      simp (maxSteps := 1000000) (disch := first | omega | (simp only [sizeAlloc, sizeDrew, sizeSet, sizePut] <;> omega) | fail) only [GS, TT_eq, TTl, Nat.reduceAdd, Nat.reduceMul, Nat.reduceSub, Nat.reduceDiv, Nat.reduceMod, Nat.reducePow, Nat.reduceEqDiff, ↓reduceIte, reduceCtorEq, Int.reduceToNat, Int.reduceAdd, Int.reduceSub, Int.reduceMul]
      exact hR _ (hM0.trans hM30 (by simp))
  subst hF
  by_cases hxy : x = y
  · have hAB := congrArg Prod.fst (hxye hxy)
    simp only at hAB
    subst hxy
    subst hAB
    have c_bP := fun o => cellOf (o := o) bP
    have c_bQ := fun o => cellOf (o := o) bQ
    simp (maxSteps := 1000000) (disch := first | omega | (simp only [sizeAlloc, sizeDrew, sizeSet, sizePut] <;> omega) | fail) only [GS, TT_eq, TTl, Nat.reduceAdd, Nat.reduceMul, Nat.reduceSub, Nat.reduceDiv, Nat.reduceMod, Nat.reducePow, Nat.reduceEqDiff, ↓reduceIte, reduceCtorEq, Int.reduceToNat, Int.reduceAdd, Int.reduceSub, Int.reduceMul, eq_self, b2s, c_bP, c_bQ]
    obtain ⟨hI, hO⟩ := hio rfl
    rw [hI, hO] at hDx
    simp only [if_true] at hDx
    refine ⟨fok14, hDx _ _ fun  u5 hM_ => .inl ⟨_, rfl, hold_stop (s' := some 9) (hold_ops okT (rs := [.tmp 6]) rfl ?_)⟩⟩
    replace hg := hg.mod hM_ (by simp)
    replace bP := hM_.get bP (by simp)
    replace bQ := hM_.get bQ (by simp)
    replace hM0 := hM0.trans hM_ (by simp)
    have c_bP := fun o => cellOf (o := o) bP
    have c_bQ := fun o => cellOf (o := o) bQ
    simp (maxSteps := 1000000) (disch := first | omega | (simp only [sizeAlloc, sizeDrew, sizeSet, sizePut] <;> omega) | fail) only [GS, TT_eq, TTl, Nat.reduceAdd, Nat.reduceMul, Nat.reduceSub, Nat.reduceDiv, Nat.reduceMod, Nat.reducePow, Nat.reduceEqDiff, ↓reduceIte, reduceCtorEq, Int.reduceToNat, Int.reduceAdd, Int.reduceSub, Int.reduceMul, c_bP, c_bQ]
    generalize hW_ : ((((((((u5.alloc (.cells #[.int .i64 0, .int .i64 0, .int .i64 0, .int .i64 0, .int .i64 0, .string ⟨#[]⟩, .string ⟨#[]⟩] 38)).setCell ⟨u5.heap.size, 0, none⟩ (.int .i64 x.f)).setCell ⟨u5.heap.size, 1, none⟩ (.int .i64 x.t)).setCell ⟨u5.heap.size, 2, none⟩ (.int .i64 x.fe)).setCell ⟨u5.heap.size, 3, none⟩ (.int .i64 x.te)).setCell ⟨u5.heap.size, 4, none⟩ (.int .i64 x.no)).setCell ⟨u5.heap.size, 5, none⟩ (.string ⟨x.body.toArray⟩)).setCell ⟨u5.heap.size, 6, none⟩ (.string ⟨x.tag.toArray⟩)) = u6
    obtain ⟨bD, hM_⟩ : u6.heap[u5.heap.size]? = some (.cells #[.int .i64 x.f, .int .i64 x.t, .int .i64 x.fe, .int .i64 x.te, .int .i64 x.no, .string ⟨x.body.toArray⟩, .string ⟨x.tag.toArray⟩] 38 (0, 0)) ∧ Mod [] u5 u6 := by
      subst hW_
      exact ⟨st7z heapNew, modSet7z ((Mod.refl [] u5).alloc _) (.inr (Nat.le_refl _))⟩
    clear hW_
    replace hg := hg.mod hM_ (by simp)
    replace bP := hM_.get bP (by simp)
    replace bQ := hM_.get bQ (by simp)
    replace hM0 := hM0.trans hM_ (by simp)
    generalize u5.heap.size = qd at *
    refine hold_stop (s' := none) ?_
    refine hold_code okT (rs := [.tmp 6]) rfl ?_
    have c_bP := fun o => cellOf (o := o) bP
    have c_bQ := fun o => cellOf (o := o) bQ
    have c_bD := fun o => cellOf (o := o) bD
    simp (maxSteps := 1000000) (disch := first | omega | (simp only [sizeAlloc, sizeDrew, sizeSet, sizePut] <;> omega) | fail) only [GS, TT_eq, TTl, Nat.reduceAdd, Nat.reduceMul, Nat.reduceSub, Nat.reduceDiv, Nat.reduceMod, Nat.reducePow, Nat.reduceEqDiff, ↓reduceIte, reduceCtorEq, Int.reduceToNat, Int.reduceAdd, Int.reduceSub, Int.reduceMul, eq_self, c_bP, c_bQ, c_bD]
    refine ⟨fok14, hDt _ _ fun  u7 hM_ => .inl ⟨_, rfl, hold_stop (s' := some 12) (hold_ops okT (rs := [.tmp 6]) rfl ?_)⟩⟩
    replace hg := hg.mod hM_ (by simp)
    replace bP := hM_.get bP (by simp)
    replace bQ := hM_.get bQ (by simp)
    replace hM0 := hM0.trans hM_ (by simp)
    replace bD := hM_.get bD (by simp)
    have c_bP := fun o => cellOf (o := o) bP
    have c_bQ := fun o => cellOf (o := o) bQ
    have c_bD := fun o => cellOf (o := o) bD
    simp (maxSteps := 1000000) (disch := first | omega | (simp only [sizeAlloc, sizeDrew, sizeSet, sizePut] <;> omega) | fail) only [GS, TT_eq, TTl, Nat.reduceAdd, Nat.reduceMul, Nat.reduceSub, Nat.reduceDiv, Nat.reduceMod, Nat.reducePow, Nat.reduceEqDiff, ↓reduceIte, reduceCtorEq, Int.reduceToNat, Int.reduceAdd, Int.reduceSub, Int.reduceMul, c_bP, c_bQ, c_bD]
    generalize hW_ : ((((((((u7.alloc (.cells #[.int .i64 0, .int .i64 0, .int .i64 0, .int .i64 0, .int .i64 0, .string ⟨#[]⟩, .string ⟨#[]⟩] 38)).setCell ⟨u7.heap.size, 0, none⟩ (.int .i64 Q.f)).setCell ⟨u7.heap.size, 1, none⟩ (.int .i64 Q.t)).setCell ⟨u7.heap.size, 2, none⟩ (.int .i64 Q.fe)).setCell ⟨u7.heap.size, 3, none⟩ (.int .i64 Q.te)).setCell ⟨u7.heap.size, 4, none⟩ (.int .i64 Q.no)).setCell ⟨u7.heap.size, 5, none⟩ (.string ⟨Q.body.toArray⟩)).setCell ⟨u7.heap.size, 6, none⟩ (.string ⟨Q.tag.toArray⟩)) = u8
    obtain ⟨bT, hM_⟩ : u8.heap[u7.heap.size]? = some (.cells #[.int .i64 Q.f, .int .i64 Q.t, .int .i64 Q.fe, .int .i64 Q.te, .int .i64 Q.no, .string ⟨Q.body.toArray⟩, .string ⟨Q.tag.toArray⟩] 38 (0, 0)) ∧ Mod [] u7 u8 := by
      subst hW_
      exact ⟨st7z heapNew, modSet7z ((Mod.refl [] u7).alloc _) (.inr (Nat.le_refl _))⟩
    clear hW_
    replace hg := hg.mod hM_ (by simp)
    replace bP := hM_.get bP (by simp)
    replace bQ := hM_.get bQ (by simp)
    replace hM0 := hM0.trans hM_ (by simp)
    replace bD := hM_.get bD (by simp)
    generalize u7.heap.size = qt at *
    cases I
    · simp only [Bool.false_eq_true, if_false]
      have hQ := ho0 rfl
      subst hQ
      unfold ev0 at bT
      simp only at bT
      refine hold_stop (s' := none) ?_
      refine hold_code okT (rs := [.tmp 6]) rfl ?_
      have c_bP := fun o => cellOf (o := o) bP
      have c_bQ := fun o => cellOf (o := o) bQ
      have c_bD := fun o => cellOf (o := o) bD
      have c_bT := fun o => cellOf (o := o) bT
      simp (maxSteps := 1000000) (disch := first | omega | (simp only [sizeAlloc, sizeDrew, sizeSet, sizePut] <;> omega) | fail) only [GS, TT_eq, TTl, Nat.reduceAdd, Nat.reduceMul, Nat.reduceSub, Nat.reduceDiv, Nat.reduceMod, Nat.reducePow, Nat.reduceEqDiff, ↓reduceIte, reduceCtorEq, Int.reduceToNat, Int.reduceAdd, Int.reduceSub, Int.reduceMul, eq_self, c_bP, c_bQ, c_bD, c_bT]
      refine ⟨fok12, alive20_cps _ hg _ fun w30 hM30 => .inl ⟨_, rfl, hold_ops okT (rs := [.tmp 6]) rfl ?_⟩⟩
      simp (maxSteps := 1000000) (disch := first | omega | (simp only [sizeAlloc, sizeDrew, sizeSet, sizePut] <;> omega) | fail) only [GS, TT_eq, TTl, Nat.reduceAdd, Nat.reduceMul, Nat.reduceSub, Nat.reduceDiv, Nat.reduceMod, Nat.reducePow, Nat.reduceEqDiff, ↓reduceIte, reduceCtorEq, Int.reduceToNat, Int.reduceAdd, Int.reduceSub, Int.reduceMul]
      exact hR _ (hM0.trans hM30 (by simp))
    · simp only [if_true]
      have hN := hie rfl
      rw [hN] at hEt
      simp only at hEt
      refine hold_stop (s' := none) ?_
      refine hold_code okT (rs := [.tmp 6]) rfl ?_
      have c_bP := fun o => cellOf (o := o) bP
      have c_bQ := fun o => cellOf (o := o) bQ
      have c_bD := fun o => cellOf (o := o) bD
      have c_bT := fun o => cellOf (o := o) bT
      simp (maxSteps := 1000000) (disch := first | omega | (simp only [sizeAlloc, sizeDrew, sizeSet, sizePut] <;> omega) | fail) only [GS, TT_eq, TTl, Nat.reduceAdd, Nat.reduceMul, Nat.reduceSub, Nat.reduceDiv, Nat.reduceMod, Nat.reducePow, Nat.reduceEqDiff, ↓reduceIte, reduceCtorEq, Int.reduceToNat, Int.reduceAdd, Int.reduceSub, Int.reduceMul, c_bP, c_bQ, c_bD, c_bT]
      refine ⟨fok13, hEt _ _ fun  u9 hM_ => .inl ⟨_, rfl, hold_ops okT (rs := [.tmp 6]) rfl ?_⟩⟩
      replace hg := hg.mod hM_ (by simp)
      replace bP := hM_.get bP (by simp)
      replace bQ := hM_.get bQ (by simp)
      replace hM0 := hM0.trans hM_ (by simp)
      replace bD := hM_.get bD (by simp)
      replace bT := hM_.get bT (by simp)
      have c_bP := fun o => cellOf (o := o) bP
      have c_bQ := fun o => cellOf (o := o) bQ
      have c_bD := fun o => cellOf (o := o) bD
      have c_bT := fun o => cellOf (o := o) bT
      simp (maxSteps := 1000000) (disch := first | omega | (simp only [sizeAlloc, sizeDrew, sizeSet, sizePut] <;> omega) | fail) only [GS, TT_eq, TTl, Nat.reduceAdd, Nat.reduceMul, Nat.reduceSub, Nat.reduceDiv, Nat.reduceMod, Nat.reducePow, Nat.reduceEqDiff, ↓reduceIte, reduceCtorEq, Int.reduceToNat, Int.reduceAdd, Int.reduceSub, Int.reduceMul, eq_self, c_bP, c_bQ, c_bD, c_bT]
      refine ⟨fok12, alive20_cps _ hg _ fun w30 hM30 => .inl ⟨_, rfl, hold_ops okT (rs := [.tmp 6]) rfl ?_⟩⟩
      simp (maxSteps := 1000000) (disch := first | omega | (simp only [sizeAlloc, sizeDrew, sizeSet, sizePut] <;> omega) | fail) only [GS, TT_eq, TTl, Nat.reduceAdd, Nat.reduceMul, Nat.reduceSub, Nat.reduceDiv, Nat.reduceMod, Nat.reducePow, Nat.reduceEqDiff, ↓reduceIte, reduceCtorEq, Int.reduceToNat, Int.reduceAdd, Int.reduceSub, Int.reduceMul]
      exact hR _ (hM0.trans hM30 (by simp))
  · have hAB : ¬ A = B := fun h => hxy (hinj rfl (by rw [h]))
    have hne := ev_ne7 hxy
    have c_bP := fun o => cellOf (o := o) bP
    have c_bQ := fun o => cellOf (o := o) bQ
    simp (maxSteps := 1000000) (disch := first | omega | (simp only [sizeAlloc, sizeDrew, sizeSet, sizePut] <;> omega) | fail) only [GS, TT_eq, TTl, Nat.reduceAdd, Nat.reduceMul, Nat.reduceSub, Nat.reduceDiv, Nat.reduceMod, Nat.reducePow, Nat.reduceEqDiff, ↓reduceIte, reduceCtorEq, Int.reduceToNat, Int.reduceAdd, Int.reduceSub, Int.reduceMul, hAB, hne, c_bP, c_bQ]
    obtain ⟨hI, hO⟩ := hio rfl
    rw [hI, hO] at hDx
    simp only [if_true] at hDx
    refine ⟨fok14, hDx _ _ fun  u5 hM_ => .inl ⟨_, rfl, hold_stop (s' := some 9) (hold_ops okT (rs := [.tmp 6]) rfl ?_)⟩⟩
    replace hg := hg.mod hM_ (by simp)
    replace bP := hM_.get bP (by simp)
    replace bQ := hM_.get bQ (by simp)
    replace hM0 := hM0.trans hM_ (by simp)
    have c_bP := fun o => cellOf (o := o) bP
    have c_bQ := fun o => cellOf (o := o) bQ
    simp (maxSteps := 1000000) (disch := first | omega | (simp only [sizeAlloc, sizeDrew, sizeSet, sizePut] <;> omega) | fail) only [GS, TT_eq, TTl, Nat.reduceAdd, Nat.reduceMul, Nat.reduceSub, Nat.reduceDiv, Nat.reduceMod, Nat.reducePow, Nat.reduceEqDiff, ↓reduceIte, reduceCtorEq, Int.reduceToNat, Int.reduceAdd, Int.reduceSub, Int.reduceMul, c_bP, c_bQ]
    generalize hW_ : ((((((((u5.alloc (.cells #[.int .i64 0, .int .i64 0, .int .i64 0, .int .i64 0, .int .i64 0, .string ⟨#[]⟩, .string ⟨#[]⟩] 38)).setCell ⟨u5.heap.size, 0, none⟩ (.int .i64 x.f)).setCell ⟨u5.heap.size, 1, none⟩ (.int .i64 x.t)).setCell ⟨u5.heap.size, 2, none⟩ (.int .i64 x.fe)).setCell ⟨u5.heap.size, 3, none⟩ (.int .i64 x.te)).setCell ⟨u5.heap.size, 4, none⟩ (.int .i64 x.no)).setCell ⟨u5.heap.size, 5, none⟩ (.string ⟨x.body.toArray⟩)).setCell ⟨u5.heap.size, 6, none⟩ (.string ⟨x.tag.toArray⟩)) = u6
    obtain ⟨bD, hM_⟩ : u6.heap[u5.heap.size]? = some (.cells #[.int .i64 x.f, .int .i64 x.t, .int .i64 x.fe, .int .i64 x.te, .int .i64 x.no, .string ⟨x.body.toArray⟩, .string ⟨x.tag.toArray⟩] 38 (0, 0)) ∧ Mod [] u5 u6 := by
      subst hW_
      exact ⟨st7z heapNew, modSet7z ((Mod.refl [] u5).alloc _) (.inr (Nat.le_refl _))⟩
    clear hW_
    replace hg := hg.mod hM_ (by simp)
    replace bP := hM_.get bP (by simp)
    replace bQ := hM_.get bQ (by simp)
    replace hM0 := hM0.trans hM_ (by simp)
    generalize u5.heap.size = qd at *
    refine hold_stop (s' := none) ?_
    refine hold_code okT (rs := [.tmp 6]) rfl ?_
    have c_bP := fun o => cellOf (o := o) bP
    have c_bQ := fun o => cellOf (o := o) bQ
    have c_bD := fun o => cellOf (o := o) bD
    simp (maxSteps := 1000000) (disch := first | omega | (simp only [sizeAlloc, sizeDrew, sizeSet, sizePut] <;> omega) | fail) only [GS, TT_eq, TTl, Nat.reduceAdd, Nat.reduceMul, Nat.reduceSub, Nat.reduceDiv, Nat.reduceMod, Nat.reducePow, Nat.reduceEqDiff, ↓reduceIte, reduceCtorEq, Int.reduceToNat, Int.reduceAdd, Int.reduceSub, Int.reduceMul, eq_self, c_bP, c_bQ, c_bD]
    refine ⟨fok14, hDt _ _ fun  u7 hM_ => .inl ⟨_, rfl, hold_stop (s' := some 12) (hold_ops okT (rs := [.tmp 6]) rfl ?_)⟩⟩
    replace hg := hg.mod hM_ (by simp)
    replace bP := hM_.get bP (by simp)
    replace bQ := hM_.get bQ (by simp)
    replace hM0 := hM0.trans hM_ (by simp)
    replace bD := hM_.get bD (by simp)
    have c_bP := fun o => cellOf (o := o) bP
    have c_bQ := fun o => cellOf (o := o) bQ
    have c_bD := fun o => cellOf (o := o) bD
    simp (maxSteps := 1000000) (disch := first | omega | (simp only [sizeAlloc, sizeDrew, sizeSet, sizePut] <;> omega) | fail) only [GS, TT_eq, TTl, Nat.reduceAdd, Nat.reduceMul, Nat.reduceSub, Nat.reduceDiv, Nat.reduceMod, Nat.reducePow, Nat.reduceEqDiff, ↓reduceIte, reduceCtorEq, Int.reduceToNat, Int.reduceAdd, Int.reduceSub, Int.reduceMul, c_bP, c_bQ, c_bD]
    generalize hW_ : ((((((((u7.alloc (.cells #[.int .i64 0, .int .i64 0, .int .i64 0, .int .i64 0, .int .i64 0, .string ⟨#[]⟩, .string ⟨#[]⟩] 38)).setCell ⟨u7.heap.size, 0, none⟩ (.int .i64 Q.f)).setCell ⟨u7.heap.size, 1, none⟩ (.int .i64 Q.t)).setCell ⟨u7.heap.size, 2, none⟩ (.int .i64 Q.fe)).setCell ⟨u7.heap.size, 3, none⟩ (.int .i64 Q.te)).setCell ⟨u7.heap.size, 4, none⟩ (.int .i64 Q.no)).setCell ⟨u7.heap.size, 5, none⟩ (.string ⟨Q.body.toArray⟩)).setCell ⟨u7.heap.size, 6, none⟩ (.string ⟨Q.tag.toArray⟩)) = u8
    obtain ⟨bT, hM_⟩ : u8.heap[u7.heap.size]? = some (.cells #[.int .i64 Q.f, .int .i64 Q.t, .int .i64 Q.fe, .int .i64 Q.te, .int .i64 Q.no, .string ⟨Q.body.toArray⟩, .string ⟨Q.tag.toArray⟩] 38 (0, 0)) ∧ Mod [] u7 u8 := by
      subst hW_
      exact ⟨st7z heapNew, modSet7z ((Mod.refl [] u7).alloc _) (.inr (Nat.le_refl _))⟩
    clear hW_
    replace hg := hg.mod hM_ (by simp)
    replace bP := hM_.get bP (by simp)
    replace bQ := hM_.get bQ (by simp)
    replace hM0 := hM0.trans hM_ (by simp)
    replace bD := hM_.get bD (by simp)
    generalize u7.heap.size = qt at *
    cases I
    · simp only [Bool.false_eq_true, if_false]
      have hQ := ho0 rfl
      subst hQ
      unfold ev0 at bT
      simp only at bT
      refine hold_stop (s' := none) ?_
      refine hold_code okT (rs := [.tmp 6]) rfl ?_
      have c_bP := fun o => cellOf (o := o) bP
      have c_bQ := fun o => cellOf (o := o) bQ
      have c_bD := fun o => cellOf (o := o) bD
      have c_bT := fun o => cellOf (o := o) bT
      simp (maxSteps := 1000000) (disch := first | omega | (simp only [sizeAlloc, sizeDrew, sizeSet, sizePut] <;> omega) | fail) only [GS, TT_eq, TTl, Nat.reduceAdd, Nat.reduceMul, Nat.reduceSub, Nat.reduceDiv, Nat.reduceMod, Nat.reducePow, Nat.reduceEqDiff, ↓reduceIte, reduceCtorEq, Int.reduceToNat, Int.reduceAdd, Int.reduceSub, Int.reduceMul, eq_self, c_bP, c_bQ, c_bD, c_bT]
      refine ⟨fok12, alive20_cps _ hg _ fun w30 hM30 => .inl ⟨_, rfl, hold_ops okT (rs := [.tmp 6]) rfl ?_⟩⟩
      simp (maxSteps := 1000000) (disch := first | omega | (simp only [sizeAlloc, sizeDrew, sizeSet, sizePut] <;> omega) | fail) only [GS, TT_eq, TTl, Nat.reduceAdd, Nat.reduceMul, Nat.reduceSub, Nat.reduceDiv, Nat.reduceMod, Nat.reducePow, Nat.reduceEqDiff, ↓reduceIte, reduceCtorEq, Int.reduceToNat, Int.reduceAdd, Int.reduceSub, Int.reduceMul]
      exact hR _ (hM0.trans hM30 (by simp))
    · simp only [if_true]
      have hN := hie rfl
      rw [hN] at hEt
      simp only at hEt
      refine hold_stop (s' := none) ?_
      refine hold_code okT (rs := [.tmp 6]) rfl ?_
      have c_bP := fun o => cellOf (o := o) bP
      have c_bQ := fun o => cellOf (o := o) bQ
      have c_bD := fun o => cellOf (o := o) bD
      have c_bT := fun o => cellOf (o := o) bT
      simp (maxSteps := 1000000) (disch := first | omega | (simp only [sizeAlloc, sizeDrew, sizeSet, sizePut] <;> omega) | fail) only [GS, TT_eq, TTl, Nat.reduceAdd, Nat.reduceMul, Nat.reduceSub, Nat.reduceDiv, Nat.reduceMod, Nat.reducePow, Nat.reduceEqDiff, ↓reduceIte, reduceCtorEq, Int.reduceToNat, Int.reduceAdd, Int.reduceSub, Int.reduceMul, c_bP, c_bQ, c_bD, c_bT]
      refine ⟨fok13, hEt _ _ fun  u9 hM_ => .inl ⟨_, rfl, hold_ops okT (rs := [.tmp 6]) rfl ?_⟩⟩
      replace hg := hg.mod hM_ (by simp)
      replace bP := hM_.get bP (by simp)
      replace bQ := hM_.get bQ (by simp)
      replace hM0 := hM0.trans hM_ (by simp)
      replace bD := hM_.get bD (by simp)
      replace bT := hM_.get bT (by simp)
      have c_bP := fun o => cellOf (o := o) bP
      have c_bQ := fun o => cellOf (o := o) bQ
      have c_bD := fun o => cellOf (o := o) bD
      have c_bT := fun o => cellOf (o := o) bT
      simp (maxSteps := 1000000) (disch := first | omega | (simp only [sizeAlloc, sizeDrew, sizeSet, sizePut] <;> omega) | fail) only [GS, TT_eq, TTl, Nat.reduceAdd, Nat.reduceMul, Nat.reduceSub, Nat.reduceDiv, Nat.reduceMod, Nat.reducePow, Nat.reduceEqDiff, ↓reduceIte, reduceCtorEq, Int.reduceToNat, Int.reduceAdd, Int.reduceSub, Int.reduceMul, eq_self, c_bP, c_bQ, c_bD, c_bT]
      refine ⟨fok12, alive20_cps _ hg _ fun w30 hM30 => .inl ⟨_, rfl, hold_ops okT (rs := [.tmp 6]) rfl ?_⟩⟩
      simp (maxSteps := 1000000) (disch := first | omega | (simp only [sizeAlloc, sizeDrew, sizeSet, sizePut] <;> omega) | fail) only [GS, TT_eq, TTl, Nat.reduceAdd, Nat.reduceMul, Nat.reduceSub, Nat.reduceDiv, Nat.reduceMod, Nat.reducePow, Nat.reduceEqDiff, ↓reduceIte, reduceCtorEq, Int.reduceToNat, Int.reduceAdd, Int.reduceSub, Int.reduceMul]
      exact hR _ (hM0.trans hM30 (by simp))
end Go.Proofs.YthnlmmkhehphiaaDoor
