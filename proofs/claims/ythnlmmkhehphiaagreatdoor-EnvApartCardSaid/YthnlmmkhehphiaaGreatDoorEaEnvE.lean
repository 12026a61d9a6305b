/-
  EnvApart: a tag is of one envelope alone, and of no ballot (plain); the law (walk).
-/
import Derived.Test.YthnlmmkhehphiaaGreatDoorEaEnvB
import Derived.Test.YthnlmmkhehphiaaGreatDoorEaBal9
set_option linter.unusedSimpArgs false
set_option linter.unusedVariables false
set_option maxRecDepth 20000
namespace Go.Proofs.YthnlmmkhehphiaaGreatDoor
open Go Go.Wk Go.RowKit
attribute [local irreducible] go Hold
open Go.Lib
theorem three20 {w W : World} {A B C : Obj} (h : ((w.alloc A).alloc B).alloc C = W) : W.heap[w.heap.size]? = some A ∧ W.heap[w.heap.size + 1]? = some B ∧ W.heap[w.heap.size + 2]? = some C ∧ Mod [] w W := by
  subst h
  have h1 := heapNew (w := w.alloc A) (o := B)
  have h2 := heapNew (w := (w.alloc A).alloc B) (o := C)
  rw [sizeAlloc] at h1
  rw [sizeAlloc, sizeAlloc] at h2
  exact ⟨heapAlloc (heapAlloc heapNew), heapAlloc h1, h2, (((Mod.refl [] w).alloc A).alloc B).alloc C⟩
/-- An envelope without its tag. -/
def ev6 (x : Ev) : Ev := ⟨x.f, x.t, x.fe, x.te, x.no, x.body, []⟩
theorem ev6_iff {x y : Ev} : ev6 x = ev6 y ↔ (x.f = y.f ∧ x.t = y.t ∧ x.fe = y.fe ∧ x.te = y.te ∧ x.no = y.no ∧ x.body = y.body) := by
  unfold ev6
  simp only [Ev.mk.injEq, and_true]
theorem ev6_ne {x y : Ev} (h : ¬ ev6 x = ev6 y) : bnd (decide (x.f = y.f)) (bnd (decide (x.t = y.t)) (bnd (decide (x.fe = y.fe)) (bnd (decide (x.te = y.te)) (bnd (decide (x.no = y.no)) (bnd (decide (x.body = y.body)) true))))) = false := by
  have hb : ∀ a b : Bool, bnd a b = (a && b) := by decide
  simp only [hb, Bool.and_true]
  rw [Bool.eq_false_iff]
  intro g
  simp only [Bool.and_eq_true, decide_eq_true_eq] at g
  exact h (ev6_iff.2 g)
theorem etag_parts {x : Ev} (h : (etagS x).2 = 0) : (headS x).2 = 0 ∧ partsS (etagS x).1 = [(atomS (keyL 1 x.f x.t)).1, (headS x).1] := by
  unfold etagS at h ⊢
  split at h
  · rename_i h0
    rw [if_pos h0]
    refine ⟨h0, ?_⟩
    obtain ⟨K, tr, e⟩ := made_is (front := [109]) (l := [(atomS (keyL 1 x.f x.t)).1, (headS x).1]) (.inr (.inr (.inr (.inr (.inl ⟨rfl, rfl⟩))))) (Prod.ext rfl h)
    rw [tr.parts, e]
  · rename_i h0
    exact absurd h h0
theorem head_parts {x : Ev} (h : (headS x).2 = 0) : allN x = true ∧ partsS (headS x).1 = evL x := by
  have hm := head_is h
  refine ⟨(mayH_is hm).1, ?_⟩
  unfold headS at h ⊢
  rw [if_pos hm] at h ⊢
  exact (row_of (l := evL x) (by rw [evL_7]; omega) (Prod.ext rfl h)).2
theorem evL_rd {x : Ev} (ha : allN x = true) : rdEL (evL x ++ [[]]) = ev6 x := by
  have hN := fun j hj => num20_ok (in_nn ha (j := j) hj)
  have hZ := fun j hj => in_nn ha (j := j) hj
  unfold rdEL nAt ev6
  obtain ⟨f, t, fe, te, no, body, tag⟩ := x
  have h0 := hN 0 (by omega)
  have h1 := hN 1 (by omega)
  have h2 := hN 2 (by omega)
  have h3 := hN 3 (by omega)
  have h4 := hN 4 (by omega)
  have z0 := hZ 0 (by omega)
  have z1 := hZ 1 (by omega)
  have z2 := hZ 2 (by omega)
  have z3 := hZ 3 (by omega)
  have z4 := hZ 4 (by omega)
  simp only [evN, List.getD_cons_zero, List.getD_cons_succ] at h0 h1 h2 h3 h4 z0 z1 z2 z3 z4
  simp only [evL, evL0, evN, List.take_succ_cons, List.take_nil, List.take_zero, List.map_cons, List.map_nil, List.cons_append, List.nil_append, List.getD_cons_zero, List.getD_cons_succ, h0, h1, h2, h3, h4, Option.getD_some, Int.toNat_of_nonneg z0.1, Int.toNat_of_nonneg z1.1, Int.toNat_of_nonneg z2.1, Int.toNat_of_nonneg z3.1, Int.toNat_of_nonneg z4.1]
theorem etag_6 (x : Ev) : etagS x = etagS (ev6 x) := rfl
theorem etag_eq {x y : Ev} (h : ev6 x = ev6 y) : etagS x = etagS y := by rw [etag_6 x, etag_6 y, h]
theorem etag_inj {x y : Ev} (h : (etagS x).2 = 0) (h' : (etagS y).2 = 0) (e : (etagS x).1 = (etagS y).1) : ev6 x = ev6 y := by
  obtain ⟨h1, h2⟩ := etag_parts h
  obtain ⟨h3, h4⟩ := etag_parts h'
  rw [e, h4] at h2
  simp only [List.cons.injEq, and_true] at h2
  obtain ⟨a1, p1⟩ := head_parts h1
  obtain ⟨a2, p2⟩ := head_parts h3
  rw [h2.2, p1] at p2
  rw [← evL_rd a1, ← evL_rd a2, p2]
/-- No tag of an envelope is a ballot's. -/
theorem etag_bal {x : Ev} {q : Tx} {aud : Int} {mbs : List Mb} {org : Int} (h : (etagS x).2 = 0) (h' : (tagS q aud mbs org).2 = 0) : ¬ (tagS q aud mbs org).1 = (etagS x).1 := by
  intro e
  obtain ⟨h1, h2⟩ := etag_parts h
  obtain ⟨h3, h4⟩ := tag_parts h'
  rw [← e, h4] at h2
  simp only [List.cons.injEq, and_true] at h2
  obtain ⟨-, p1⟩ := head_parts h1
  obtain ⟨-, p2, -⟩ := body_back (Prod.ext rfl h3 : bodyS q aud mbs org = ((bodyS q aud mbs org).1, 0))
  rw [h2.2, p1] at p2
  have := congrArg List.length p2
  rw [evL_7] at this
  simp [bdL] at this
theorem longB_is20 {l : List Mb} (h : longB l = false) : l.length ≤ 20 ∧ ∀ x ∈ l, x.2.length ≤ 20000 := by
  unfold longB at h
  simp only [Bool.or_eq_false_iff] at h
  refine ⟨by have := of_decide_eq_false h.1; omega, fun x hx => ?_⟩
  have := List.any_eq_false.1 h.2 x hx
  simp only [decide_eq_true_eq] at this
  omega
set_option maxRecDepth 20000 in
set_option maxHeartbeats 64000000 in
theorem apart20_cps (x y : Ev) (q : Tx) (aud : Int) (ms : Value) (mbs : List Mb) (org : Int) (w : World) (hx0 : EvIn x) (hy0 : EvIn y) (ha : MbsIn w ms mbs) (hg : KG w) (R : Ending → World → Prop) (hR : ∀ w', Mod [] w w' → R (.returned (.bool true)) w') :
    Calls Tryz.prog 7 #[evV x, evV y, balV q aud ms org] w R := by
  have hLx := Long20_cps x hx0
  have hLy := Long20_cps y hy0
  have os : ms.oneCell' = true := by obtain ⟨a, c, e⟩ := ha.rd.slice; rw [e]; rfl
  obtain ⟨hra, hlena, hdiga, hmoa⟩ := ha
  have hra0 : ∀ w', Mod [] w w' → Rd w' 2 ms mbs.length (mbs.flatMap mbC) := fun w' hM => hra.mod hM (by simp)
  have hg0 := hg
  obtain ⟨a, b, c⟩ := q
  unfold evV evC at hLx hLy ⊢
  unfold balV
  simp only
  refine calls_go 4000 okT Tryz.func7 rfl (rs := [.tmp 6]) rfl Tryz.ntmps7 (args := [.agg #[.int .i64 x.f, .int .i64 x.t, .int .i64 x.fe, .int .i64 x.te, .int .i64 x.no, .string ⟨x.body.toArray⟩, .string ⟨x.tag.toArray⟩], .agg #[.int .i64 y.f, .int .i64 y.t, .int .i64 y.fe, .int .i64 y.te, .int .i64 y.no, .string ⟨y.body.toArray⟩, .string ⟨y.tag.toArray⟩], .agg #[.int .i64 a, .int .i64 b, .int .i64 c, .int .i64 aud, ms, .int .i64 org]]) ?_
  simp (maxSteps := 1000000) (disch := first | omega | (simp only [sizeAlloc, sizeDrew, sizeSet, sizePut] <;> omega) | fail) only [GS, TT_eq, TTl, Nat.reduceAdd, Nat.reduceMul, Nat.reduceSub, Nat.reduceDiv, Nat.reduceMod, Nat.reducePow, Nat.reduceEqDiff, ↓reduceIte, reduceCtorEq, Int.reduceToNat, Int.reduceAdd, Int.reduceSub, Int.reduceMul, os, cellsL_one os]
  generalize hW : ((w.alloc (.cells #[.int .i64 x.f, .int .i64 x.t, .int .i64 x.fe, .int .i64 x.te, .int .i64 x.no, .string ⟨x.body.toArray⟩, .string ⟨x.tag.toArray⟩] 42)).alloc (.cells #[.int .i64 y.f, .int .i64 y.t, .int .i64 y.fe, .int .i64 y.te, .int .i64 y.no, .string ⟨y.body.toArray⟩, .string ⟨y.tag.toArray⟩] 42)).alloc (.cells #[.int .i64 a, .int .i64 b, .int .i64 c, .int .i64 aud, ms, .int .i64 org] 26) = w1
  obtain ⟨bP, bQ, bB, hM0⟩ := three20 hW
  clear hW
  replace hg := hg.mod hM0 (by simp)
  replace hra := hra.mod hM0 (by simp)
  have hn0 := hg0.lt
  generalize hn : w.heap.size = n at *
  refine ⟨fok15, hLx _ _ fun  u1 hM_ => .inl ⟨_, rfl, hold_ops okT (rs := [.tmp 6]) rfl ?_⟩⟩
  replace hg := hg.mod hM_ (by simp)
  replace bP := hM_.get bP (by simp)
  replace bQ := hM_.get bQ (by simp)
  replace bB := hM_.get bB (by simp)
  replace hM0 := hM0.trans hM_ (by simp)
  replace hra := hra.mod hM_ (by simp)
  cases hlx : longE x
  rotate_left
  · simp (maxSteps := 1000000) (disch := first | omega | (simp only [sizeAlloc, sizeDrew, sizeSet, sizePut] <;> omega) | fail) only [GS, TT_eq, TTl, Nat.reduceAdd, Nat.reduceMul, Nat.reduceSub, Nat.reduceDiv, Nat.reduceMod, Nat.reducePow, Nat.reduceEqDiff, ↓reduceIte, reduceCtorEq, Int.reduceToNat, Int.reduceAdd, Int.reduceSub, Int.reduceMul]
    refine ⟨fok16, alive20_cps _ hg _ fun w30 hM30 => .inl ⟨_, rfl, hold_ops okT (rs := [.tmp 6]) rfl ?_⟩⟩
    simp (maxSteps := 1000000) (disch := first | omega | (simp only [sizeAlloc, sizeDrew, sizeSet, sizePut] <;> omega) | fail) only [GS, TT_eq, TTl, Nat.reduceAdd, Nat.reduceMul, Nat.reduceSub, Nat.reduceDiv, Nat.reduceMod, Nat.reducePow, Nat.reduceEqDiff, ↓reduceIte, reduceCtorEq, Int.reduceToNat, Int.reduceAdd, Int.reduceSub, Int.reduceMul]
    exact hR _ (hM0.trans hM30 (by simp))
  have c_bP := fun o => cellOf (o := o) bP
  have c_bQ := fun o => cellOf (o := o) bQ
  have c_bB := fun o => cellOf (o := o) bB
  simp (maxSteps := 1000000) (disch := first | omega | (simp only [sizeAlloc, sizeDrew, sizeSet, sizePut] <;> omega) | fail) only [GS, TT_eq, TTl, Nat.reduceAdd, Nat.reduceMul, Nat.reduceSub, Nat.reduceDiv, Nat.reduceMod, Nat.reducePow, Nat.reduceEqDiff, ↓reduceIte, reduceCtorEq, Int.reduceToNat, Int.reduceAdd, Int.reduceSub, Int.reduceMul, os, cellsL_one os, c_bP, c_bQ, c_bB]
  refine ⟨fok15, hLy _ _ fun  u2 hM_ => .inl ⟨_, rfl, hold_ops okT (rs := [.tmp 6]) rfl ?_⟩⟩
  replace hg := hg.mod hM_ (by simp)
  replace bP := hM_.get bP (by simp)
  replace bQ := hM_.get bQ (by simp)
  replace bB := hM_.get bB (by simp)
  replace hM0 := hM0.trans hM_ (by simp)
  replace hra := hra.mod hM_ (by simp)
  cases hly : longE y
  rotate_left
  · simp (maxSteps := 1000000) (disch := first | omega | (simp only [sizeAlloc, sizeDrew, sizeSet, sizePut] <;> omega) | fail) only [GS, TT_eq, TTl, Nat.reduceAdd, Nat.reduceMul, Nat.reduceSub, Nat.reduceDiv, Nat.reduceMod, Nat.reducePow, Nat.reduceEqDiff, ↓reduceIte, reduceCtorEq, Int.reduceToNat, Int.reduceAdd, Int.reduceSub, Int.reduceMul]
    refine ⟨fok16, alive20_cps _ hg _ fun w30 hM30 => .inl ⟨_, rfl, hold_ops okT (rs := [.tmp 6]) rfl ?_⟩⟩
    simp (maxSteps := 1000000) (disch := first | omega | (simp only [sizeAlloc, sizeDrew, sizeSet, sizePut] <;> omega) | fail) only [GS, TT_eq, TTl, Nat.reduceAdd, Nat.reduceMul, Nat.reduceSub, Nat.reduceDiv, Nat.reduceMod, Nat.reducePow, Nat.reduceEqDiff, ↓reduceIte, reduceCtorEq, Int.reduceToNat, Int.reduceAdd, Int.reduceSub, Int.reduceMul]
    exact hR _ (hM0.trans hM30 (by simp))
  have c_bP := fun o => cellOf (o := o) bP
  have c_bQ := fun o => cellOf (o := o) bQ
  have c_bB := fun o => cellOf (o := o) bB
  simp (maxSteps := 1000000) (disch := first | omega | (simp only [sizeAlloc, sizeDrew, sizeSet, sizePut] <;> omega) | fail) only [GS, TT_eq, TTl, Nat.reduceAdd, Nat.reduceMul, Nat.reduceSub, Nat.reduceDiv, Nat.reduceMod, Nat.reducePow, Nat.reduceEqDiff, ↓reduceIte, reduceCtorEq, Int.reduceToNat, Int.reduceAdd, Int.reduceSub, Int.reduceMul, os, cellsL_one os, c_bP, c_bQ, c_bB]
  refine ⟨fok8, Long12_cps ms mbs _ _ (by omega) hdiga hra (.inl ⟨_, rfl, hold_ops okT (rs := [.tmp 6]) rfl ?_⟩)⟩
  cases hla : longB mbs
  rotate_left
  · simp (maxSteps := 1000000) (disch := first | omega | (simp only [sizeAlloc, sizeDrew, sizeSet, sizePut] <;> omega) | fail) only [GS, TT_eq, TTl, Nat.reduceAdd, Nat.reduceMul, Nat.reduceSub, Nat.reduceDiv, Nat.reduceMod, Nat.reducePow, Nat.reduceEqDiff, ↓reduceIte, reduceCtorEq, Int.reduceToNat, Int.reduceAdd, Int.reduceSub, Int.reduceMul]
    refine ⟨fok16, alive20_cps _ hg _ fun w30 hM30 => .inl ⟨_, rfl, hold_ops okT (rs := [.tmp 6]) rfl ?_⟩⟩
    simp (maxSteps := 1000000) (disch := first | omega | (simp only [sizeAlloc, sizeDrew, sizeSet, sizePut] <;> omega) | fail) only [GS, TT_eq, TTl, Nat.reduceAdd, Nat.reduceMul, Nat.reduceSub, Nat.reduceDiv, Nat.reduceMod, Nat.reducePow, Nat.reduceEqDiff, ↓reduceIte, reduceCtorEq, Int.reduceToNat, Int.reduceAdd, Int.reduceSub, Int.reduceMul]
    exact hR _ (hM0.trans hM30 (by simp))
  obtain ⟨hl20, hd20⟩ := longB_is20 hla
  have hx := longE_in hlx
  have hy := longE_in hly
  have hTx := fun s => eTag_cps s x hx
  have hTy := fun s => eTag_cps s y hy
  have hFy := fun s => eFits_cps s ⟨y.f, y.t, y.fe, y.te, y.no, y.body, (etagS x).1⟩ ⟨hy.body, by have := etag_len x; unfold maxLen; simp only; omega⟩
  have hFb := fun s t w h => bFits_cps s (a, b, c) aud ms mbs org t w (by omega) hdiga h
  have hbl := @etag_bal x (a, b, c) aud mbs org
  have hinj := @etag_inj x y
  have heq := @etag_eq x y
  rw [show etagS ⟨y.f, y.t, y.fe, y.te, y.no, y.body, (etagS x).1⟩ = etagS y from rfl] at hFy
  generalize etagS x = TX at *
  generalize etagS y = TY at *
  generalize tagS (a, b, c) aud mbs org = TB at *
  obtain ⟨X, E⟩ := TX
  obtain ⟨Y, F⟩ := TY
  obtain ⟨Z, G⟩ := TB
  unfold evV evC at hTx hTy hFy
  unfold balV at hFb
  unfold stV at hTx hTy
  simp only at hTx hTy hFy hFb hbl hinj
  have b2s : ∀ b : Bool, beq2 b b = true := fun b => by cases b <;> rfl
  simp (maxSteps := 1000000) (disch := first | omega | (simp only [sizeAlloc, sizeDrew, sizeSet, sizePut] <;> omega) | fail) only [GS, TT_eq, TTl, Nat.reduceAdd, Nat.reduceMul, Nat.reduceSub, Nat.reduceDiv, Nat.reduceMod, Nat.reducePow, Nat.reduceEqDiff, ↓reduceIte, reduceCtorEq, Int.reduceToNat, Int.reduceAdd, Int.reduceSub, Int.reduceMul]
  refine ⟨fok10, sNew_cps [] _ _ fun s u90 hs hM_ => .inl ⟨_, rfl, hold_ops okT (rs := [.tmp 6]) rfl ?_⟩⟩
  have hs2 : s ≠ n ∧ s ≠ n + 1 := ⟨fun h => by subst h; unfold isSui at hs; rw [hM_.get bP (by simp)] at hs; simp at hs, fun h => by subst h; unfold isSui at hs; rw [hM_.get bQ (by simp)] at hs; simp at hs⟩
  replace hg := hg.mod hM_ (by simp)
  replace bP := hM_.get bP (by simp)
  replace bQ := hM_.get bQ (by simp)
  replace bB := hM_.get bB (by simp)
  replace hM0 := hM0.trans hM_ (by simp)
  replace hra := hra.mod hM_ (by simp)
  have c_bP := fun o => cellOf (o := o) bP
  have c_bQ := fun o => cellOf (o := o) bQ
  have c_bB := fun o => cellOf (o := o) bB
  simp (maxSteps := 1000000) (disch := first | omega | (simp only [sizeAlloc, sizeDrew, sizeSet, sizePut] <;> omega) | fail) only [GS, TT_eq, TTl, Nat.reduceAdd, Nat.reduceMul, Nat.reduceSub, Nat.reduceDiv, Nat.reduceMod, Nat.reducePow, Nat.reduceEqDiff, ↓reduceIte, reduceCtorEq, Int.reduceToNat, Int.reduceAdd, Int.reduceSub, Int.reduceMul, os, cellsL_one os, c_bP, c_bQ, c_bB]
  refine ⟨fok25, hTx s _ hs hg _ fun  u4 hM_ => .inl ⟨_, rfl, hold_ops okT (rs := [.tmp 6]) rfl ?_⟩⟩
  replace hg := hg.mod hM_ (by simp)
  replace hs := hs.mod hM_
  replace bP := hM_.get bP (by simp)
  replace bQ := hM_.get bQ (by simp)
  replace bB := hM_.get bB (by simp)
  replace hM0 := hM0.trans hM_ (by simp)
  replace hra := hra.mod hM_ (by simp)
  have c_bP := fun o => cellOf (o := o) bP
  have c_bQ := fun o => cellOf (o := o) bQ
  have c_bB := fun o => cellOf (o := o) bB
  simp (maxSteps := 1000000) (disch := first | omega | (simp only [sizeAlloc, sizeDrew, sizeSet, sizePut] <;> omega) | fail) only [GS, TT_eq, TTl, Nat.reduceAdd, Nat.reduceMul, Nat.reduceSub, Nat.reduceDiv, Nat.reduceMod, Nat.reducePow, Nat.reduceEqDiff, ↓reduceIte, reduceCtorEq, Int.reduceToNat, Int.reduceAdd, Int.reduceSub, Int.reduceMul, os, cellsL_one os, c_bP, c_bQ, c_bB]
  refine ⟨fok25, hTy s _ hs hg _ fun  u5 hM_ => .inl ⟨_, rfl, hold_stop (s' := some 12) (hold_ops okT (rs := [.tmp 6]) rfl ?_)⟩⟩
  replace hg := hg.mod hM_ (by simp)
  replace hs := hs.mod hM_
  replace bP := hM_.get bP (by simp)
  replace bQ := hM_.get bQ (by simp)
  replace bB := hM_.get bB (by simp)
  replace hM0 := hM0.trans hM_ (by simp)
  replace hra := hra.mod hM_ (by simp)
  by_cases hE : E = 0
  rotate_left
  · simp (maxSteps := 1000000) (disch := first | omega | (simp only [sizeAlloc, sizeDrew, sizeSet, sizePut] <;> omega) | fail) only [GS, TT_eq, TTl, Nat.reduceAdd, Nat.reduceMul, Nat.reduceSub, Nat.reduceDiv, Nat.reduceMod, Nat.reducePow, Nat.reduceEqDiff, ↓reduceIte, reduceCtorEq, Int.reduceToNat, Int.reduceAdd, Int.reduceSub, Int.reduceMul, hE]
    refine ⟨fok16, alive20_cps _ hg _ fun w30 hM30 => .inl ⟨_, rfl, hold_ops okT (rs := [.tmp 6]) rfl ?_⟩⟩
    simp (maxSteps := 1000000) (disch := first | omega | (simp only [sizeAlloc, sizeDrew, sizeSet, sizePut] <;> omega) | fail) only [GS, TT_eq, TTl, Nat.reduceAdd, Nat.reduceMul, Nat.reduceSub, Nat.reduceDiv, Nat.reduceMod, Nat.reducePow, Nat.reduceEqDiff, ↓reduceIte, reduceCtorEq, Int.reduceToNat, Int.reduceAdd, Int.reduceSub, Int.reduceMul]
    exact hR _ (hM0.trans hM30 (by simp))
  subst hE
  have x_bP := fun o => frozenOf (o := o) bP
  have x_bQ := fun o => frozenOf (o := o) bQ
  have c_bP := fun o => cellOf (o := o) bP
  have c_bQ := fun o => cellOf (o := o) bQ
  have c_bB := fun o => cellOf (o := o) bB
  simp (maxSteps := 1000000) (disch := first | omega | (simp only [sizeAlloc, sizeDrew, sizeSet, sizePut] <;> omega) | fail) only [GS, TT_eq, TTl, Nat.reduceAdd, Nat.reduceMul, Nat.reduceSub, Nat.reduceDiv, Nat.reduceMod, Nat.reducePow, Nat.reduceEqDiff, ↓reduceIte, reduceCtorEq, Int.reduceToNat, Int.reduceAdd, Int.reduceSub, Int.reduceMul, os, cellsL_one os, x_bP, x_bQ, c_bP, c_bQ, c_bB]
  have p1 : ((u5.setCell ⟨n, 6, none⟩ (.string ⟨#[]⟩)).setCell ⟨n + 1, 6, none⟩ (.string ⟨#[]⟩)).heap[n]? = some (.cells #[.int .i64 x.f, .int .i64 x.t, .int .i64 x.fe, .int .i64 x.te, .int .i64 x.no, .string ⟨x.body.toArray⟩, .string ⟨#[]⟩] 42 (0, 0)) := heapSetNe (by rw [heapSet bP]; rfl) (by omega)
  have q1 : ((u5.setCell ⟨n, 6, none⟩ (.string ⟨#[]⟩)).setCell ⟨n + 1, 6, none⟩ (.string ⟨#[]⟩)).heap[n + 1]? = some (.cells #[.int .i64 y.f, .int .i64 y.t, .int .i64 y.fe, .int .i64 y.te, .int .i64 y.no, .string ⟨y.body.toArray⟩, .string ⟨#[]⟩] 42 (0, 0)) := by rw [heapSet (heapSetNe bQ (by omega))]; rfl
  have hM_ : Mod [n, n + 1] u5 ((u5.setCell ⟨n, 6, none⟩ (.string ⟨#[]⟩)).setCell ⟨n + 1, 6, none⟩ (.string ⟨#[]⟩)) := ((Mod.refl [n, n + 1] u5).set (p := ⟨n, 6, none⟩) (.inl (by simp)) _).set (p := ⟨n + 1, 6, none⟩) (.inl (by simp)) _
  clear bP bQ x_bP x_bQ c_bP c_bQ c_bB
  generalize (u5.setCell ⟨n, 6, none⟩ (.string ⟨#[]⟩)).setCell ⟨n + 1, 6, none⟩ (.string ⟨#[]⟩) = u91 at *
  replace bB := hM_.get bB (by simp)
  replace hM0 := hM0.trans hM_ (by intro y hy; simp at hy; right; omega)
  replace hg := hg.mod hM_ (by simp; omega)
  replace hs : isSui u91 s := hM_.get hs (by simp; omega)
  replace hra := hra0 _ hM0
  clear hM_
  have bP := p1
  have bQ := q1
  clear p1 q1
  have hbo : (decide (G = 0) && decide (Z = X)) = false := by
    rw [Bool.eq_false_iff]
    intro h
    simp only [Bool.and_eq_true, decide_eq_true_eq] at h
    exact hbl rfl h.1 h.2
  by_cases hsm : ev6 x = ev6 y
  · have hXY := heq hsm
    simp only [Prod.mk.injEq] at hXY
    obtain ⟨rfl, rfl⟩ := hXY
    obtain ⟨e1, e2, e3, e4, e5, e6⟩ := ev6_iff.1 hsm
    refine hold_stop (s' := some 16) ?_
    refine hold_code okT (rs := [.tmp 6]) rfl ?_
    have x_bQ := fun o => frozenOf (o := o) bQ
    have c_bP := fun o => cellOf (o := o) bP
    have c_bQ := fun o => cellOf (o := o) bQ
    have c_bB := fun o => cellOf (o := o) bB
    simp (maxSteps := 1000000) (disch := first | omega | (simp only [sizeAlloc, sizeDrew, sizeSet, sizePut] <;> omega) | fail) only [GS, TT_eq, TTl, Nat.reduceAdd, Nat.reduceMul, Nat.reduceSub, Nat.reduceDiv, Nat.reduceMod, Nat.reducePow, Nat.reduceEqDiff, ↓reduceIte, reduceCtorEq, Int.reduceToNat, Int.reduceAdd, Int.reduceSub, Int.reduceMul, os, cellsL_one os, x_bQ, eq_self, b2s, e1, e2, e3, e4, e5, e6, c_bP, c_bQ, c_bB]
    have q1 : (u91.setCell ⟨n + 1, 6, none⟩ (.string ⟨X.toArray⟩)).heap[n + 1]? = some (.cells #[.int .i64 y.f, .int .i64 y.t, .int .i64 y.fe, .int .i64 y.te, .int .i64 y.no, .string ⟨y.body.toArray⟩, .string ⟨X.toArray⟩] 42 (0, 0)) := by rw [heapSet bQ]; rfl
    have hM_ : Mod [n + 1] u91 (u91.setCell ⟨n + 1, 6, none⟩ (.string ⟨X.toArray⟩)) := (Mod.refl [n + 1] u91).set (p := ⟨n + 1, 6, none⟩) (.inl (by simp)) _
    clear bQ x_bQ c_bP c_bQ c_bB
    generalize u91.setCell ⟨n + 1, 6, none⟩ (.string ⟨X.toArray⟩) = u92 at *
    replace bB := hM_.get bB (by simp)
    replace bP := hM_.get bP (by simp)
    replace hM0 := hM0.trans hM_ (by intro y hy; simp at hy; right; omega)
    replace hg := hg.mod hM_ (by simp)
    replace hs : isSui u92 s := hM_.get hs (by simp; omega)
    replace hra := hra0 _ hM0
    clear hM_
    have bQ := q1
    clear q1
    refine hold_stop (s' := none) ?_
    refine hold_code okT (rs := [.tmp 6]) rfl ?_
    have c_bP := fun o => cellOf (o := o) bP
    have c_bQ := fun o => cellOf (o := o) bQ
    have c_bB := fun o => cellOf (o := o) bB
    simp (maxSteps := 1000000) (disch := first | omega | (simp only [sizeAlloc, sizeDrew, sizeSet, sizePut] <;> omega) | fail) only [GS, TT_eq, TTl, Nat.reduceAdd, Nat.reduceMul, Nat.reduceSub, Nat.reduceDiv, Nat.reduceMod, Nat.reducePow, Nat.reduceEqDiff, ↓reduceIte, reduceCtorEq, Int.reduceToNat, Int.reduceAdd, Int.reduceSub, Int.reduceMul, os, cellsL_one os, eq_self, c_bP, c_bQ, c_bB]
    have hF1 := hFy s
    rw [show (decide ((0 : Int) = 0) && decide (X = X)) = true from by simp] at hF1
    refine ⟨fok26, hF1 _ hs hg _ fun  u6 hM_ => .inl ⟨_, rfl, hold_ops okT (rs := [.tmp 6]) rfl ?_⟩⟩
    replace hg := hg.mod hM_ (by simp)
    replace hs := hs.mod hM_
    replace bP := hM_.get bP (by simp)
    replace bQ := hM_.get bQ (by simp)
    replace bB := hM_.get bB (by simp)
    replace hM0 := hM0.trans hM_ (by simp)
    replace hra := hra.mod hM_ (by simp)
    have c_bP := fun o => cellOf (o := o) bP
    have c_bQ := fun o => cellOf (o := o) bQ
    have c_bB := fun o => cellOf (o := o) bB
    simp (maxSteps := 1000000) (disch := first | omega | (simp only [sizeAlloc, sizeDrew, sizeSet, sizePut] <;> omega) | fail) only [GS, TT_eq, TTl, Nat.reduceAdd, Nat.reduceMul, Nat.reduceSub, Nat.reduceDiv, Nat.reduceMod, Nat.reducePow, Nat.reduceEqDiff, ↓reduceIte, reduceCtorEq, Int.reduceToNat, Int.reduceAdd, Int.reduceSub, Int.reduceMul, os, cellsL_one os, eq_self, b2s, c_bP, c_bQ, c_bB]
    have hF2 := hFb s X
    rw [hbo] at hF2
    refine ⟨fok13, hF2 _ hra hs hg _ fun  u7 hM_ => .inl ⟨_, rfl, hold_ops okT (rs := [.tmp 6]) rfl ?_⟩⟩
    replace hg := hg.mod hM_ (by simp)
    replace hs := hs.mod hM_
    replace bP := hM_.get bP (by simp)
    replace bQ := hM_.get bQ (by simp)
    replace bB := hM_.get bB (by simp)
    replace hM0 := hM0.trans hM_ (by simp)
    replace hra := hra.mod hM_ (by simp)
    have c_bP := fun o => cellOf (o := o) bP
    have c_bQ := fun o => cellOf (o := o) bQ
    have c_bB := fun o => cellOf (o := o) bB
    simp (maxSteps := 1000000) (disch := first | omega | (simp only [sizeAlloc, sizeDrew, sizeSet, sizePut] <;> omega) | fail) only [GS, TT_eq, TTl, Nat.reduceAdd, Nat.reduceMul, Nat.reduceSub, Nat.reduceDiv, Nat.reduceMod, Nat.reducePow, Nat.reduceEqDiff, ↓reduceIte, reduceCtorEq, Int.reduceToNat, Int.reduceAdd, Int.reduceSub, Int.reduceMul, os, cellsL_one os, eq_self, b2s, c_bP, c_bQ, c_bB]
    refine ⟨fok16, alive20_cps _ hg _ fun w30 hM30 => .inl ⟨_, rfl, hold_ops okT (rs := [.tmp 6]) rfl ?_⟩⟩
    simp (maxSteps := 1000000) (disch := first | omega | (simp only [sizeAlloc, sizeDrew, sizeSet, sizePut] <;> omega) | fail) only [GS, TT_eq, TTl, Nat.reduceAdd, Nat.reduceMul, Nat.reduceSub, Nat.reduceDiv, Nat.reduceMod, Nat.reducePow, Nat.reduceEqDiff, ↓reduceIte, reduceCtorEq, Int.reduceToNat, Int.reduceAdd, Int.reduceSub, Int.reduceMul]
    exact hR _ (hM0.trans hM30 (by simp))
  · have hne := ev6_ne hsm
    by_cases hF : F = 0
    · subst hF
      have hXY : ¬ X = Y := fun h => hsm (hinj rfl rfl h)
      have hYX : ¬ Y = X := fun h => hXY h.symm
      refine hold_stop (s' := some 16) ?_
      refine hold_code okT (rs := [.tmp 6]) rfl ?_
      have x_bQ := fun o => frozenOf (o := o) bQ
      have c_bP := fun o => cellOf (o := o) bP
      have c_bQ := fun o => cellOf (o := o) bQ
      have c_bB := fun o => cellOf (o := o) bB
      simp (maxSteps := 1000000) (disch := first | omega | (simp only [sizeAlloc, sizeDrew, sizeSet, sizePut] <;> omega) | fail) only [GS, TT_eq, TTl, Nat.reduceAdd, Nat.reduceMul, Nat.reduceSub, Nat.reduceDiv, Nat.reduceMod, Nat.reducePow, Nat.reduceEqDiff, ↓reduceIte, reduceCtorEq, Int.reduceToNat, Int.reduceAdd, Int.reduceSub, Int.reduceMul, os, cellsL_one os, x_bQ, eq_self, b2s, hne, hXY, c_bP, c_bQ, c_bB]
      have q1 : (u91.setCell ⟨n + 1, 6, none⟩ (.string ⟨X.toArray⟩)).heap[n + 1]? = some (.cells #[.int .i64 y.f, .int .i64 y.t, .int .i64 y.fe, .int .i64 y.te, .int .i64 y.no, .string ⟨y.body.toArray⟩, .string ⟨X.toArray⟩] 42 (0, 0)) := by rw [heapSet bQ]; rfl
      have hM_ : Mod [n + 1] u91 (u91.setCell ⟨n + 1, 6, none⟩ (.string ⟨X.toArray⟩)) := (Mod.refl [n + 1] u91).set (p := ⟨n + 1, 6, none⟩) (.inl (by simp)) _
      clear bQ x_bQ c_bP c_bQ c_bB
      generalize u91.setCell ⟨n + 1, 6, none⟩ (.string ⟨X.toArray⟩) = u92 at *
      replace bB := hM_.get bB (by simp)
      replace bP := hM_.get bP (by simp)
      replace hM0 := hM0.trans hM_ (by intro y hy; simp at hy; right; omega)
      replace hg := hg.mod hM_ (by simp)
      replace hs : isSui u92 s := hM_.get hs (by simp; omega)
      replace hra := hra0 _ hM0
      clear hM_
      have bQ := q1
      clear q1
      refine hold_stop (s' := none) ?_
      refine hold_code okT (rs := [.tmp 6]) rfl ?_
      have c_bP := fun o => cellOf (o := o) bP
      have c_bQ := fun o => cellOf (o := o) bQ
      have c_bB := fun o => cellOf (o := o) bB
      simp (maxSteps := 1000000) (disch := first | omega | (simp only [sizeAlloc, sizeDrew, sizeSet, sizePut] <;> omega) | fail) only [GS, TT_eq, TTl, Nat.reduceAdd, Nat.reduceMul, Nat.reduceSub, Nat.reduceDiv, Nat.reduceMod, Nat.reducePow, Nat.reduceEqDiff, ↓reduceIte, reduceCtorEq, Int.reduceToNat, Int.reduceAdd, Int.reduceSub, Int.reduceMul, os, cellsL_one os, eq_self, c_bP, c_bQ, c_bB]
      have hF1 := hFy s
      rw [show (decide ((0 : Int) = 0) && decide (Y = X)) = false from by simp [hYX]] at hF1
      refine ⟨fok26, hF1 _ hs hg _ fun  u6 hM_ => .inl ⟨_, rfl, hold_ops okT (rs := [.tmp 6]) rfl ?_⟩⟩
      replace hg := hg.mod hM_ (by simp)
      replace hs := hs.mod hM_
      replace bP := hM_.get bP (by simp)
      replace bQ := hM_.get bQ (by simp)
      replace bB := hM_.get bB (by simp)
      replace hM0 := hM0.trans hM_ (by simp)
      replace hra := hra.mod hM_ (by simp)
      have c_bP := fun o => cellOf (o := o) bP
      have c_bQ := fun o => cellOf (o := o) bQ
      have c_bB := fun o => cellOf (o := o) bB
      simp (maxSteps := 1000000) (disch := first | omega | (simp only [sizeAlloc, sizeDrew, sizeSet, sizePut] <;> omega) | fail) only [GS, TT_eq, TTl, Nat.reduceAdd, Nat.reduceMul, Nat.reduceSub, Nat.reduceDiv, Nat.reduceMod, Nat.reducePow, Nat.reduceEqDiff, ↓reduceIte, reduceCtorEq, Int.reduceToNat, Int.reduceAdd, Int.reduceSub, Int.reduceMul, os, cellsL_one os, eq_self, b2s, c_bP, c_bQ, c_bB]
      have hF2 := hFb s X
      rw [hbo] at hF2
      refine ⟨fok13, hF2 _ hra hs hg _ fun  u7 hM_ => .inl ⟨_, rfl, hold_ops okT (rs := [.tmp 6]) rfl ?_⟩⟩
      replace hg := hg.mod hM_ (by simp)
      replace hs := hs.mod hM_
      replace bP := hM_.get bP (by simp)
      replace bQ := hM_.get bQ (by simp)
      replace bB := hM_.get bB (by simp)
      replace hM0 := hM0.trans hM_ (by simp)
      replace hra := hra.mod hM_ (by simp)
      have c_bP := fun o => cellOf (o := o) bP
      have c_bQ := fun o => cellOf (o := o) bQ
      have c_bB := fun o => cellOf (o := o) bB
      simp (maxSteps := 1000000) (disch := first | omega | (simp only [sizeAlloc, sizeDrew, sizeSet, sizePut] <;> omega) | fail) only [GS, TT_eq, TTl, Nat.reduceAdd, Nat.reduceMul, Nat.reduceSub, Nat.reduceDiv, Nat.reduceMod, Nat.reducePow, Nat.reduceEqDiff, ↓reduceIte, reduceCtorEq, Int.reduceToNat, Int.reduceAdd, Int.reduceSub, Int.reduceMul, os, cellsL_one os, eq_self, b2s, c_bP, c_bQ, c_bB]
      refine ⟨fok16, alive20_cps _ hg _ fun w30 hM30 => .inl ⟨_, rfl, hold_ops okT (rs := [.tmp 6]) rfl ?_⟩⟩
      simp (maxSteps := 1000000) (disch := first | omega | (simp only [sizeAlloc, sizeDrew, sizeSet, sizePut] <;> omega) | fail) only [GS, TT_eq, TTl, Nat.reduceAdd, Nat.reduceMul, Nat.reduceSub, Nat.reduceDiv, Nat.reduceMod, Nat.reducePow, Nat.reduceEqDiff, ↓reduceIte, reduceCtorEq, Int.reduceToNat, Int.reduceAdd, Int.reduceSub, Int.reduceMul]
      exact hR _ (hM0.trans hM30 (by simp))
    ·
      refine hold_stop (s' := some 16) ?_
      refine hold_code okT (rs := [.tmp 6]) rfl ?_
      have x_bQ := fun o => frozenOf (o := o) bQ
      have c_bP := fun o => cellOf (o := o) bP
      have c_bQ := fun o => cellOf (o := o) bQ
      have c_bB := fun o => cellOf (o := o) bB
      simp (maxSteps := 1000000) (disch := first | omega | (simp only [sizeAlloc, sizeDrew, sizeSet, sizePut] <;> omega) | fail) only [GS, TT_eq, TTl, Nat.reduceAdd, Nat.reduceMul, Nat.reduceSub, Nat.reduceDiv, Nat.reduceMod, Nat.reducePow, Nat.reduceEqDiff, ↓reduceIte, reduceCtorEq, Int.reduceToNat, Int.reduceAdd, Int.reduceSub, Int.reduceMul, os, cellsL_one os, x_bQ, eq_self, b2s, hne, hF, c_bP, c_bQ, c_bB]
      have q1 : (u91.setCell ⟨n + 1, 6, none⟩ (.string ⟨X.toArray⟩)).heap[n + 1]? = some (.cells #[.int .i64 y.f, .int .i64 y.t, .int .i64 y.fe, .int .i64 y.te, .int .i64 y.no, .string ⟨y.body.toArray⟩, .string ⟨X.toArray⟩] 42 (0, 0)) := by rw [heapSet bQ]; rfl
      have hM_ : Mod [n + 1] u91 (u91.setCell ⟨n + 1, 6, none⟩ (.string ⟨X.toArray⟩)) := (Mod.refl [n + 1] u91).set (p := ⟨n + 1, 6, none⟩) (.inl (by simp)) _
      clear bQ x_bQ c_bP c_bQ c_bB
      generalize u91.setCell ⟨n + 1, 6, none⟩ (.string ⟨X.toArray⟩) = u92 at *
      replace bB := hM_.get bB (by simp)
      replace bP := hM_.get bP (by simp)
      replace hM0 := hM0.trans hM_ (by intro y hy; simp at hy; right; omega)
      replace hg := hg.mod hM_ (by simp)
      replace hs : isSui u92 s := hM_.get hs (by simp; omega)
      replace hra := hra0 _ hM0
      clear hM_
      have bQ := q1
      clear q1
      refine hold_stop (s' := none) ?_
      refine hold_code okT (rs := [.tmp 6]) rfl ?_
      have c_bP := fun o => cellOf (o := o) bP
      have c_bQ := fun o => cellOf (o := o) bQ
      have c_bB := fun o => cellOf (o := o) bB
      simp (maxSteps := 1000000) (disch := first | omega | (simp only [sizeAlloc, sizeDrew, sizeSet, sizePut] <;> omega) | fail) only [GS, TT_eq, TTl, Nat.reduceAdd, Nat.reduceMul, Nat.reduceSub, Nat.reduceDiv, Nat.reduceMod, Nat.reducePow, Nat.reduceEqDiff, ↓reduceIte, reduceCtorEq, Int.reduceToNat, Int.reduceAdd, Int.reduceSub, Int.reduceMul, os, cellsL_one os, eq_self, c_bP, c_bQ, c_bB]
      have hF1 := hFy s
      rw [show (decide (F = 0) && decide (Y = X)) = false from by simp [hF]] at hF1
      refine ⟨fok26, hF1 _ hs hg _ fun  u6 hM_ => .inl ⟨_, rfl, hold_ops okT (rs := [.tmp 6]) rfl ?_⟩⟩
      replace hg := hg.mod hM_ (by simp)
      replace hs := hs.mod hM_
      replace bP := hM_.get bP (by simp)
      replace bQ := hM_.get bQ (by simp)
      replace bB := hM_.get bB (by simp)
      replace hM0 := hM0.trans hM_ (by simp)
      replace hra := hra.mod hM_ (by simp)
      have c_bP := fun o => cellOf (o := o) bP
      have c_bQ := fun o => cellOf (o := o) bQ
      have c_bB := fun o => cellOf (o := o) bB
      simp (maxSteps := 1000000) (disch := first | omega | (simp only [sizeAlloc, sizeDrew, sizeSet, sizePut] <;> omega) | fail) only [GS, TT_eq, TTl, Nat.reduceAdd, Nat.reduceMul, Nat.reduceSub, Nat.reduceDiv, Nat.reduceMod, Nat.reducePow, Nat.reduceEqDiff, ↓reduceIte, reduceCtorEq, Int.reduceToNat, Int.reduceAdd, Int.reduceSub, Int.reduceMul, os, cellsL_one os, eq_self, b2s, c_bP, c_bQ, c_bB]
      have hF2 := hFb s X
      rw [hbo] at hF2
      refine ⟨fok13, hF2 _ hra hs hg _ fun  u7 hM_ => .inl ⟨_, rfl, hold_ops okT (rs := [.tmp 6]) rfl ?_⟩⟩
      replace hg := hg.mod hM_ (by simp)
      replace hs := hs.mod hM_
      replace bP := hM_.get bP (by simp)
      replace bQ := hM_.get bQ (by simp)
      replace bB := hM_.get bB (by simp)
      replace hM0 := hM0.trans hM_ (by simp)
      replace hra := hra.mod hM_ (by simp)
      have c_bP := fun o => cellOf (o := o) bP
      have c_bQ := fun o => cellOf (o := o) bQ
      have c_bB := fun o => cellOf (o := o) bB
      simp (maxSteps := 1000000) (disch := first | omega | (simp only [sizeAlloc, sizeDrew, sizeSet, sizePut] <;> omega) | fail) only [GS, TT_eq, TTl, Nat.reduceAdd, Nat.reduceMul, Nat.reduceSub, Nat.reduceDiv, Nat.reduceMod, Nat.reducePow, Nat.reduceEqDiff, ↓reduceIte, reduceCtorEq, Int.reduceToNat, Int.reduceAdd, Int.reduceSub, Int.reduceMul, os, cellsL_one os, eq_self, b2s, c_bP, c_bQ, c_bB]
      refine ⟨fok16, alive20_cps _ hg _ fun w30 hM30 => .inl ⟨_, rfl, hold_ops okT (rs := [.tmp 6]) rfl ?_⟩⟩
      simp (maxSteps := 1000000) (disch := first | omega | (simp only [sizeAlloc, sizeDrew, sizeSet, sizePut] <;> omega) | fail) only [GS, TT_eq, TTl, Nat.reduceAdd, Nat.reduceMul, Nat.reduceSub, Nat.reduceDiv, Nat.reduceMod, Nat.reducePow, Nat.reduceEqDiff, ↓reduceIte, reduceCtorEq, Int.reduceToNat, Int.reduceAdd, Int.reduceSub, Int.reduceMul]
      exact hR _ (hM0.trans hM30 (by simp))
end Go.Proofs.YthnlmmkhehphiaaGreatDoor
