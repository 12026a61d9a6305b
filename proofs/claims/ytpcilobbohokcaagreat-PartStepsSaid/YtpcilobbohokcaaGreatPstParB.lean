/-
  part: the reference's Vote, Mark, Learn (walks).
-/
import Derived.Test.YtpcilobbohokcaaGreatPstParA
set_option linter.unusedSimpArgs false
set_option linter.unusedVariables false
set_option maxRecDepth 20000
namespace Go.Proofs.YtpcilobbohokcaaGreat
open Go Go.Wk Go.RowKit
attribute [local irreducible] go Hold
open Go.Lib
set_option maxRecDepth 20000 in
set_option maxHeartbeats 16000000 in
theorem rVote_cps (p : Pt) (ms : Value) (yes : Bool) (t : List UInt8) (ht : t.length ≤ maxLen) (w : World) (h : PtIn w p ms) (R : Ending → World → Prop)
    (h1 : ∀ q cv w', voteE p yes t = .ok q → w'.ownsRow w.heap.size 126 2 cv q.mbs.length (q.mbs.flatMap mbC) → Mod [] w w' → R (.returned (.tuple #[ptV q cv, .int .i64 0])) w')
    (h0 : ∀ c w', voteE p yes t = .error c → Mod [] w w' → R (.returned (.tuple #[ptZ, .int .i64 c])) w') :
    Calls Tryz.prog 55 #[ptV p ms, .bool yes, .string ⟨t.toArray⟩] w R := by
  generalize hE : voteE p yes t = E at h1 h0
  unfold voteE voteF at hE
  have hMy := fun w h => rMayPt_cps p ms w h
  have hOw := fun w h => rOwn_cps p ms w h
  have hin := fun w' hM => (h.mod hM : PtIn w' p ms)
  have hst := h.st
  have hse := h.sent
  have os : ms.oneCell' = true := by obtain ⟨a, c, e⟩ := h.rd.slice; rw [e]; rfl
  have hm15 : mayPt p = true → (1 ≤ p.st ∧ p.st ≤ 5) ∧ tagB p.st p.tag = true := fun h => by
    unfold mayPt at h
    simp only [Bool.and_eq_true, decide_eq_true_eq] at h
    exact ⟨h.1.1.1.1, h.2⟩
  clear h
  unfold ptZ at h0
  generalize mayPt p = B at *
  obtain ⟨⟨xa, xb, xc⟩, aud, mbs, org, body, st, tag, sent⟩ := p
  unfold ptV ptC at *
  simp only at hMy hOw hst hse hm15 ⊢
  refine calls_go 4000 okT Tryz.func55 rfl (rs := [.cell 6 72, .tmp 7]) rfl Tryz.ntmps55 (args := [.agg #[.int .i64 xa, .int .i64 xb, .int .i64 xc, .int .i64 aud, ms, .int .i64 org, .string ⟨body.toArray⟩, .int .u8 st, .string ⟨tag.toArray⟩, .int .i64 sent], .bool yes, .string ⟨t.toArray⟩]) ?_
  simp (maxSteps := 1000000) (disch := first | omega | (simp only [sizeAlloc, sizeDrew, sizeSet, sizePut] <;> omega) | fail) only [GS, TT_eq, TTl, Nat.reduceAdd, Nat.reduceMul, Nat.reduceSub, Nat.reduceDiv, Nat.reduceMod, Nat.reducePow, Nat.reduceEqDiff, ↓reduceIte, reduceCtorEq, Int.reduceToNat, Int.reduceAdd, Int.reduceSub, Int.reduceMul, os, cellsL_one os]
  generalize hW : (w.alloc (.cells #[.int .i64 xa, .int .i64 xb, .int .i64 xc, .int .i64 aud, ms, .int .i64 org, .string ⟨body.toArray⟩, .int .u8 st, .string ⟨tag.toArray⟩, .int .i64 sent] 72)).alloc (.cells #[.int .i64 0, .int .i64 0, .int .i64 0, .int .i64 0, .slice none 0 0, .int .i64 0, .string ⟨#[]⟩, .int .u8 0, .string ⟨#[]⟩, .int .i64 0] 72) = w1
  obtain ⟨hA, hB, hM0⟩ := two10 hW
  clear hW
  generalize hn : w.heap.size = n at *
  have hgeB : w.heap.size ≤ n + 1 := by omega
  have hgeA : w.heap.size ≤ n := by omega
  refine ⟨fok70, hMy _ (hin _ hM0) _ fun w2 hM2 => .inl ⟨_, rfl, hold_ops okT (rs := [.cell 6 72, .tmp 7]) rfl ?_⟩⟩
  have hA2 := hM2.get hA (by simp)
  have hB2 := hM2.get hB (by simp)
  have hM02 := hM0.trans hM2 (by simp)
  have hz : n + 1 < w2.heap.size := (Array.getElem?_eq_some_iff.1 hB2).1
  have c2 := fun o => cellOf (o := o) hA2
  cases B
  · simp only [Bool.false_eq_true, if_false] at hE
    have cB := fun o => cellOf (o := o) hB2
    have xB := fun o => frozenOf (o := o) hB2
    simp (maxSteps := 1000000) (disch := first | omega | (simp only [sizeAlloc, sizeDrew, sizeSet, sizePut] <;> omega) | fail) only [GS, TT_eq, TTl, Nat.reduceAdd, Nat.reduceMul, Nat.reduceSub, Nat.reduceDiv, Nat.reduceMod, Nat.reducePow, Nat.reduceEqDiff, ↓reduceIte, reduceCtorEq, Int.reduceToNat, Int.reduceAdd, Int.reduceSub, Int.reduceMul, cB, xB]
    refine load10 (st10 hB2) ?_
    exact h0 2 _ hE.symm (modSet10 hM02 (.inr hgeB))
  simp only [if_true] at hE
  have hs15 := (hm15 rfl).1
  cases yes
  · simp only [Bool.false_eq_true, if_false] at hE
    by_cases htn : t = []
    rotate_left
    · rw [if_neg htn] at hE
      have cB := fun o => cellOf (o := o) hB2
      have xB := fun o => frozenOf (o := o) hB2
      simp (maxSteps := 1000000) (disch := first | omega | (simp only [sizeAlloc, sizeDrew, sizeSet, sizePut] <;> omega) | fail) only [GS, TT_eq, TTl, Nat.reduceAdd, Nat.reduceMul, Nat.reduceSub, Nat.reduceDiv, Nat.reduceMod, Nat.reducePow, Nat.reduceEqDiff, ↓reduceIte, reduceCtorEq, Int.reduceToNat, Int.reduceAdd, Int.reduceSub, Int.reduceMul, cB, xB, htn]
      refine load10 (st10 hB2) ?_
      exact h0 2 _ hE.symm (modSet10 hM02 (.inr hgeB))
    subst htn
    rw [if_pos rfl] at hE
    by_cases hs1 : st = 1
    rotate_left
    · rw [if_neg hs1] at hE
      have cB := fun o => cellOf (o := o) hB2
      have xB := fun o => frozenOf (o := o) hB2
      simp (maxSteps := 1000000) (disch := first | omega | (simp only [sizeAlloc, sizeDrew, sizeSet, sizePut] <;> omega) | fail) only [GS, TT_eq, TTl, Nat.reduceAdd, Nat.reduceMul, Nat.reduceSub, Nat.reduceDiv, Nat.reduceMod, Nat.reducePow, Nat.reduceEqDiff, ↓reduceIte, reduceCtorEq, Int.reduceToNat, Int.reduceAdd, Int.reduceSub, Int.reduceMul, cB, xB, c2, eq_self, (decide_eq_false (show ¬ (st : Int) = 1 by omega))]
      refine load10 (st10 hB2) ?_
      exact h0 8 _ hE.symm (modSet10 hM02 (.inr hgeB))
    rw [if_pos hs1] at hE
    simp (maxSteps := 1000000) (disch := first | omega | (simp only [sizeAlloc, sizeDrew, sizeSet, sizePut] <;> omega) | fail) only [GS, TT_eq, TTl, Nat.reduceAdd, Nat.reduceMul, Nat.reduceSub, Nat.reduceDiv, Nat.reduceMod, Nat.reducePow, Nat.reduceEqDiff, ↓reduceIte, reduceCtorEq, Int.reduceToNat, Int.reduceAdd, Int.reduceSub, Int.reduceMul, c2, eq_self, (decide_eq_true (show (st : Int) = 1 by omega))]
    refine ⟨fok53, hOw _ (hin _ hM02) _ fun cv w3 hown hM3 => .inl ⟨_, rfl, hold_stop (s' := some 6) (hold_ops okT (rs := [.cell 6 72, .tmp 7]) rfl ?_)⟩⟩
    have hB3 := hM3.get hB2 (by simp)
    have hM03 := hM02.trans hM3 (by simp)
    have oc := ownsRow_one hown
    simp (maxSteps := 1000000) (disch := first | omega | (simp only [sizeAlloc, sizeDrew, sizeSet, sizePut] <;> omega) | fail) only [GS, TT_eq, TTl, Nat.reduceAdd, Nat.reduceMul, Nat.reduceSub, Nat.reduceDiv, Nat.reduceMod, Nat.reducePow, Nat.reduceEqDiff, ↓reduceIte, reduceCtorEq, Int.reduceToNat, Int.reduceAdd, Int.reduceSub, Int.reduceMul, oc, cellsL_one oc]
    generalize hW : (((((((((((w3.alloc (.cells #[.int .i64 0, .int .i64 0, .int .i64 0, .int .i64 0, .slice none 0 0, .int .i64 0, .string ⟨#[]⟩, .int .u8 0, .string ⟨#[]⟩, .int .i64 0] 72)).setCell ⟨w3.heap.size, 0, none⟩ (.int .i64 xa)).setCell ⟨w3.heap.size, 1, none⟩ (.int .i64 xb)).setCell ⟨w3.heap.size, 2, none⟩ (.int .i64 xc)).setCell ⟨w3.heap.size, 3, none⟩ (.int .i64 aud)).setCell ⟨w3.heap.size, 4, none⟩ (cv)).setCell ⟨w3.heap.size, 5, none⟩ (.int .i64 org)).setCell ⟨w3.heap.size, 6, none⟩ (.string ⟨body.toArray⟩)).setCell ⟨w3.heap.size, 7, none⟩ (.int .u8 st)).setCell ⟨w3.heap.size, 8, none⟩ (.string ⟨tag.toArray⟩)).setCell ⟨w3.heap.size, 9, none⟩ (.int .i64 sent)) = w4
    obtain ⟨hP, hM34⟩ : w4.heap[w3.heap.size]? = some (.cells #[.int .i64 xa, .int .i64 xb, .int .i64 xc, .int .i64 aud, cv, .int .i64 org, .string ⟨body.toArray⟩, .int .u8 st, .string ⟨tag.toArray⟩, .int .i64 sent] 72 (0, 0)) ∧ Mod [] w3 w4 := by
      subst hW
      exact ⟨st10 heapNew, modSet10 ((Mod.refl [] w3).alloc _) (.inr (Nat.le_refl _))⟩
    clear hW
    have hB4 := hM34.get hB3 (by simp)
    have hM04 := hM03.trans hM34 (by simp)
    have hown4 := ownsRow_mod hown hM34 (by simp)
    have hlt4 : ∀ g, cv.ownBlock = some g → g < w3.heap.size := fun g hg => (hown.lt g hg).2
    have hqb : n + 1 < w3.heap.size := by have := hM3.size; omega
    have hgeQ : w.heap.size ≤ w3.heap.size := hM03.size
    generalize w3.heap.size = q at *
    have c4 := fun o => cellOf (o := o) hP
    have x4 := fun o => frozenOf (o := o) hP
    refine hold_stop (s' := some 10) ?_
    refine hold_code okT (rs := [.cell 6 72, .tmp 7]) rfl ?_
    simp (maxSteps := 1000000) (disch := first | omega | (simp only [sizeAlloc, sizeDrew, sizeSet, sizePut] <;> omega) | fail) only [GS, TT_eq, TTl, Nat.reduceAdd, Nat.reduceMul, Nat.reduceSub, Nat.reduceDiv, Nat.reduceMod, Nat.reducePow, Nat.reduceEqDiff, ↓reduceIte, reduceCtorEq, Int.reduceToNat, Int.reduceAdd, Int.reduceSub, Int.reduceMul, c4, x4]
    have hP7 : ((w4.setCell ⟨q, 7, none⟩ (.int .u8 3)).setCell ⟨q, 8, none⟩ (.string ⟨#[]⟩)).heap[q]? = some (.cells #[.int .i64 xa, .int .i64 xb, .int .i64 xc, .int .i64 aud, cv, .int .i64 org, .string ⟨body.toArray⟩, .int .u8 3, .string ⟨#[]⟩, .int .i64 sent] 72 (0, 0)) := by rw [heapSet (heapSet (hP))]; rfl
    have hB7 := heapSetNe (b := q) (j := 8) (u := .string ⟨#[]⟩) (heapSetNe (b := q) (j := 7) (u := .int .u8 3) (hB4) (by omega)) (by omega)
    have hM07 := ((hM04).set (p := ⟨q, 7, none⟩) (.inr hgeQ) (.int .u8 3)).set (p := ⟨q, 8, none⟩) (.inr hgeQ) (.string ⟨#[]⟩)
    have hown7 := ownsRow_mod' hown4 (((Mod.refl [q] w4).set (p := ⟨q, 7, none⟩) (.inl (by simp)) (.int .u8 3)).set (p := ⟨q, 8, none⟩) (.inl (by simp)) (.string ⟨#[]⟩)) (fun g hg => by have := hlt4 g hg; simp; omega)
    revert hP7 hB7 hM07 hown7
    generalize ((w4.setCell ⟨q, 7, none⟩ (.int .u8 3)).setCell ⟨q, 8, none⟩ (.string ⟨#[]⟩)) = w7
    intro hP7 hB7 hM07 hown7
    refine hold_stop (s' := none) ?_
    refine hold_code okT (rs := [.cell 6 72, .tmp 7]) rfl ?_
    have cA := fun o => cellOf (o := o) hP7
    have cB := fun o => cellOf (o := o) hB7
    have xB := fun o => frozenOf (o := o) hB7
    simp (maxSteps := 1000000) (disch := first | omega | (simp only [sizeAlloc, sizeDrew, sizeSet, sizePut] <;> omega) | fail) only [GS, TT_eq, TTl, Nat.reduceAdd, Nat.reduceMul, Nat.reduceSub, Nat.reduceDiv, Nat.reduceMod, Nat.reducePow, Nat.reduceEqDiff, ↓reduceIte, reduceCtorEq, Int.reduceToNat, Int.reduceAdd, Int.reduceSub, Int.reduceMul, cA, cB, xB, oc, cellsL_one oc]
    refine load10 (st10 hB7) ?_
    refine h1 _ cv _ hE.symm ?_ (modSet10 hM07 (.inr hgeB))
    exact ownsRow_base (ownsRow_mod (S := [n + 1]) hown7 (modSet10 (F := [n + 1]) (p := n + 1) (x0 := .int .i64 xa) (x1 := .int .i64 xb) (x2 := .int .i64 xc) (x3 := .int .i64 aud) (x4 := cv) (x5 := .int .i64 org) (x6 := .string ⟨body.toArray⟩) (x7 := .int .u8 3) (x8 := .string ⟨#[]⟩) (x9 := .int .i64 sent) (Mod.refl [n + 1] w7) (.inl (by simp))) (by simp; omega)) (by omega)
  · simp only [if_true] at hE
    simp (maxSteps := 1000000) (disch := first | omega | (simp only [sizeAlloc, sizeDrew, sizeSet, sizePut] <;> omega) | fail) only [GS, TT_eq, TTl, Nat.reduceAdd, Nat.reduceMul, Nat.reduceSub, Nat.reduceDiv, Nat.reduceMod, Nat.reducePow, Nat.reduceEqDiff, ↓reduceIte, reduceCtorEq, Int.reduceToNat, Int.reduceAdd, Int.reduceSub, Int.reduceMul]
    refine ⟨fok93, rMay_cps t ht _ _ fun wT hMT => .inl ⟨_, rfl, hold_ops okT (rs := [.cell 6 72, .tmp 7]) rfl ?_⟩⟩
    have hAT := hMT.get hA2 (by simp)
    have hBT := hMT.get hB2 (by simp)
    have hM0T := hM02.trans hMT (by simp)
    have hz : n + 1 < wT.heap.size := (Array.getElem?_eq_some_iff.1 hBT).1
    have cT := fun o => cellOf (o := o) hAT
    by_cases hct : checkS t = 0
    rotate_left
    · rw [if_neg hct] at hE
      rw [decide_eq_false hct]
      have cB := fun o => cellOf (o := o) hBT
      have xB := fun o => frozenOf (o := o) hBT
      simp (maxSteps := 1000000) (disch := first | omega | (simp only [sizeAlloc, sizeDrew, sizeSet, sizePut] <;> omega) | fail) only [GS, TT_eq, TTl, Nat.reduceAdd, Nat.reduceMul, Nat.reduceSub, Nat.reduceDiv, Nat.reduceMod, Nat.reducePow, Nat.reduceEqDiff, ↓reduceIte, reduceCtorEq, Int.reduceToNat, Int.reduceAdd, Int.reduceSub, Int.reduceMul, cB, xB]
      refine load10 (st10 hBT) ?_
      exact h0 2 _ hE.symm (modSet10 hM0T (.inr hgeB))
    rw [if_pos hct] at hE
    rw [decide_eq_true hct]
    by_cases hs1 : st = 1
    rotate_left
    · rw [if_neg hs1] at hE
      have cB := fun o => cellOf (o := o) hBT
      have xB := fun o => frozenOf (o := o) hBT
      simp (maxSteps := 1000000) (disch := first | omega | (simp only [sizeAlloc, sizeDrew, sizeSet, sizePut] <;> omega) | fail) only [GS, TT_eq, TTl, Nat.reduceAdd, Nat.reduceMul, Nat.reduceSub, Nat.reduceDiv, Nat.reduceMod, Nat.reducePow, Nat.reduceEqDiff, ↓reduceIte, reduceCtorEq, Int.reduceToNat, Int.reduceAdd, Int.reduceSub, Int.reduceMul, cB, xB, cT, (decide_eq_false (show ¬ (st : Int) = 1 by omega))]
      refine load10 (st10 hBT) ?_
      exact h0 8 _ hE.symm (modSet10 hM0T (.inr hgeB))
    rw [if_pos hs1] at hE
    simp (maxSteps := 1000000) (disch := first | omega | (simp only [sizeAlloc, sizeDrew, sizeSet, sizePut] <;> omega) | fail) only [GS, TT_eq, TTl, Nat.reduceAdd, Nat.reduceMul, Nat.reduceSub, Nat.reduceDiv, Nat.reduceMod, Nat.reducePow, Nat.reduceEqDiff, ↓reduceIte, reduceCtorEq, Int.reduceToNat, Int.reduceAdd, Int.reduceSub, Int.reduceMul, cT, (decide_eq_true (show (st : Int) = 1 by omega))]
    refine ⟨fok53, hOw _ (hin _ hM0T) _ fun cv w3 hown hM3 => .inl ⟨_, rfl, hold_stop (s' := some 6) (hold_ops okT (rs := [.cell 6 72, .tmp 7]) rfl ?_)⟩⟩
    have hB3 := hM3.get hBT (by simp)
    have hM03 := hM0T.trans hM3 (by simp)
    have oc := ownsRow_one hown
    simp (maxSteps := 1000000) (disch := first | omega | (simp only [sizeAlloc, sizeDrew, sizeSet, sizePut] <;> omega) | fail) only [GS, TT_eq, TTl, Nat.reduceAdd, Nat.reduceMul, Nat.reduceSub, Nat.reduceDiv, Nat.reduceMod, Nat.reducePow, Nat.reduceEqDiff, ↓reduceIte, reduceCtorEq, Int.reduceToNat, Int.reduceAdd, Int.reduceSub, Int.reduceMul, oc, cellsL_one oc]
    generalize hW : (((((((((((w3.alloc (.cells #[.int .i64 0, .int .i64 0, .int .i64 0, .int .i64 0, .slice none 0 0, .int .i64 0, .string ⟨#[]⟩, .int .u8 0, .string ⟨#[]⟩, .int .i64 0] 72)).setCell ⟨w3.heap.size, 0, none⟩ (.int .i64 xa)).setCell ⟨w3.heap.size, 1, none⟩ (.int .i64 xb)).setCell ⟨w3.heap.size, 2, none⟩ (.int .i64 xc)).setCell ⟨w3.heap.size, 3, none⟩ (.int .i64 aud)).setCell ⟨w3.heap.size, 4, none⟩ (cv)).setCell ⟨w3.heap.size, 5, none⟩ (.int .i64 org)).setCell ⟨w3.heap.size, 6, none⟩ (.string ⟨body.toArray⟩)).setCell ⟨w3.heap.size, 7, none⟩ (.int .u8 st)).setCell ⟨w3.heap.size, 8, none⟩ (.string ⟨tag.toArray⟩)).setCell ⟨w3.heap.size, 9, none⟩ (.int .i64 sent)) = w4
    obtain ⟨hP, hM34⟩ : w4.heap[w3.heap.size]? = some (.cells #[.int .i64 xa, .int .i64 xb, .int .i64 xc, .int .i64 aud, cv, .int .i64 org, .string ⟨body.toArray⟩, .int .u8 st, .string ⟨tag.toArray⟩, .int .i64 sent] 72 (0, 0)) ∧ Mod [] w3 w4 := by
      subst hW
      exact ⟨st10 heapNew, modSet10 ((Mod.refl [] w3).alloc _) (.inr (Nat.le_refl _))⟩
    clear hW
    have hB4 := hM34.get hB3 (by simp)
    have hM04 := hM03.trans hM34 (by simp)
    have hown4 := ownsRow_mod hown hM34 (by simp)
    have hlt4 : ∀ g, cv.ownBlock = some g → g < w3.heap.size := fun g hg => (hown.lt g hg).2
    have hqb : n + 1 < w3.heap.size := by have := hM3.size; omega
    have hgeQ : w.heap.size ≤ w3.heap.size := hM03.size
    generalize w3.heap.size = q at *
    have c4 := fun o => cellOf (o := o) hP
    have x4 := fun o => frozenOf (o := o) hP
    refine hold_stop (s' := some 10) ?_
    refine hold_code okT (rs := [.cell 6 72, .tmp 7]) rfl ?_
    simp (maxSteps := 1000000) (disch := first | omega | (simp only [sizeAlloc, sizeDrew, sizeSet, sizePut] <;> omega) | fail) only [GS, TT_eq, TTl, Nat.reduceAdd, Nat.reduceMul, Nat.reduceSub, Nat.reduceDiv, Nat.reduceMod, Nat.reducePow, Nat.reduceEqDiff, ↓reduceIte, reduceCtorEq, Int.reduceToNat, Int.reduceAdd, Int.reduceSub, Int.reduceMul, c4, x4]
    have hP7 : (((w4.setCell ⟨q, 7, none⟩ (.int .u8 3)).setCell ⟨q, 7, none⟩ (.int .u8 2)).setCell ⟨q, 8, none⟩ (.string ⟨t.toArray⟩)).heap[q]? = some (.cells #[.int .i64 xa, .int .i64 xb, .int .i64 xc, .int .i64 aud, cv, .int .i64 org, .string ⟨body.toArray⟩, .int .u8 2, .string ⟨t.toArray⟩, .int .i64 sent] 72 (0, 0)) := by rw [heapSet (heapSet (heapSet (hP)))]; rfl
    have hB7 := heapSetNe (b := q) (j := 8) (u := .string ⟨t.toArray⟩) (heapSetNe (b := q) (j := 7) (u := .int .u8 2) (heapSetNe (b := q) (j := 7) (u := .int .u8 3) (hB4) (by omega)) (by omega)) (by omega)
    have hM07 := (((hM04).set (p := ⟨q, 7, none⟩) (.inr hgeQ) (.int .u8 3)).set (p := ⟨q, 7, none⟩) (.inr hgeQ) (.int .u8 2)).set (p := ⟨q, 8, none⟩) (.inr hgeQ) (.string ⟨t.toArray⟩)
    have hown7 := ownsRow_mod' hown4 ((((Mod.refl [q] w4).set (p := ⟨q, 7, none⟩) (.inl (by simp)) (.int .u8 3)).set (p := ⟨q, 7, none⟩) (.inl (by simp)) (.int .u8 2)).set (p := ⟨q, 8, none⟩) (.inl (by simp)) (.string ⟨t.toArray⟩)) (fun g hg => by have := hlt4 g hg; simp; omega)
    revert hP7 hB7 hM07 hown7
    generalize (((w4.setCell ⟨q, 7, none⟩ (.int .u8 3)).setCell ⟨q, 7, none⟩ (.int .u8 2)).setCell ⟨q, 8, none⟩ (.string ⟨t.toArray⟩)) = w7
    intro hP7 hB7 hM07 hown7
    refine hold_stop (s' := none) ?_
    refine hold_code okT (rs := [.cell 6 72, .tmp 7]) rfl ?_
    have cA := fun o => cellOf (o := o) hP7
    have cB := fun o => cellOf (o := o) hB7
    have xB := fun o => frozenOf (o := o) hB7
    simp (maxSteps := 1000000) (disch := first | omega | (simp only [sizeAlloc, sizeDrew, sizeSet, sizePut] <;> omega) | fail) only [GS, TT_eq, TTl, Nat.reduceAdd, Nat.reduceMul, Nat.reduceSub, Nat.reduceDiv, Nat.reduceMod, Nat.reducePow, Nat.reduceEqDiff, ↓reduceIte, reduceCtorEq, Int.reduceToNat, Int.reduceAdd, Int.reduceSub, Int.reduceMul, cA, cB, xB, oc, cellsL_one oc]
    refine load10 (st10 hB7) ?_
    refine h1 _ cv _ hE.symm ?_ (modSet10 hM07 (.inr hgeB))
    exact ownsRow_base (ownsRow_mod (S := [n + 1]) hown7 (modSet10 (F := [n + 1]) (p := n + 1) (x0 := .int .i64 xa) (x1 := .int .i64 xb) (x2 := .int .i64 xc) (x3 := .int .i64 aud) (x4 := cv) (x5 := .int .i64 org) (x6 := .string ⟨body.toArray⟩) (x7 := .int .u8 2) (x8 := .string ⟨t.toArray⟩) (x9 := .int .i64 sent) (Mod.refl [n + 1] w7) (.inl (by simp))) (by simp; omega)) (by omega)
set_option maxRecDepth 20000 in
set_option maxHeartbeats 16000000 in
theorem rMark_cps (p : Pt) (ms : Value) (now : Int) (w : World) (h : PtIn w p ms) (R : Ending → World → Prop)
    (h1 : ∀ q cv w', markE p now = .ok q → w'.ownsRow w.heap.size 126 2 cv q.mbs.length (q.mbs.flatMap mbC) → Mod [] w w' → R (.returned (.tuple #[ptV q cv, .int .i64 0])) w')
    (h0 : ∀ c w', markE p now = .error c → Mod [] w w' → R (.returned (.tuple #[ptZ, .int .i64 c])) w') :
    Calls Tryz.prog 59 #[ptV p ms, .int .i64 now] w R := by
  generalize hE : markE p now = E at h1 h0
  unfold markE at hE
  have hMy := fun w h => rMayPt_cps p ms w h
  have hOw := fun w h => rOwn_cps p ms w h
  have hin := fun w' hM => (h.mod hM : PtIn w' p ms)
  have hst := h.st
  have hse := h.sent
  have os : ms.oneCell' = true := by obtain ⟨a, c, e⟩ := h.rd.slice; rw [e]; rfl
  have hm15 : mayPt p = true → (1 ≤ p.st ∧ p.st ≤ 5) ∧ tagB p.st p.tag = true := fun h => by
    unfold mayPt at h
    simp only [Bool.and_eq_true, decide_eq_true_eq] at h
    exact ⟨h.1.1.1.1, h.2⟩
  clear h
  unfold ptZ at h0
  generalize mayPt p = B at *
  obtain ⟨⟨xa, xb, xc⟩, aud, mbs, org, body, st, tag, sent⟩ := p
  unfold ptV ptC at *
  simp only at hMy hOw hst hse hm15 ⊢
  refine calls_go 4000 okT Tryz.func59 rfl (rs := [.cell 4 72, .tmp 5]) rfl Tryz.ntmps59 (args := [.agg #[.int .i64 xa, .int .i64 xb, .int .i64 xc, .int .i64 aud, ms, .int .i64 org, .string ⟨body.toArray⟩, .int .u8 st, .string ⟨tag.toArray⟩, .int .i64 sent], .int .i64 now]) ?_
  simp (maxSteps := 1000000) (disch := first | omega | (simp only [sizeAlloc, sizeDrew, sizeSet, sizePut] <;> omega) | fail) only [GS, TT_eq, TTl, Nat.reduceAdd, Nat.reduceMul, Nat.reduceSub, Nat.reduceDiv, Nat.reduceMod, Nat.reducePow, Nat.reduceEqDiff, ↓reduceIte, reduceCtorEq, Int.reduceToNat, Int.reduceAdd, Int.reduceSub, Int.reduceMul, os, cellsL_one os]
  generalize hW : (w.alloc (.cells #[.int .i64 xa, .int .i64 xb, .int .i64 xc, .int .i64 aud, ms, .int .i64 org, .string ⟨body.toArray⟩, .int .u8 st, .string ⟨tag.toArray⟩, .int .i64 sent] 72)).alloc (.cells #[.int .i64 0, .int .i64 0, .int .i64 0, .int .i64 0, .slice none 0 0, .int .i64 0, .string ⟨#[]⟩, .int .u8 0, .string ⟨#[]⟩, .int .i64 0] 72) = w1
  obtain ⟨hA, hB, hM0⟩ := two10 hW
  clear hW
  generalize hn : w.heap.size = n at *
  have hgeB : w.heap.size ≤ n + 1 := by omega
  have hgeA : w.heap.size ≤ n := by omega
  refine ⟨fok70, hMy _ (hin _ hM0) _ fun w2 hM2 => .inl ⟨_, rfl, hold_ops okT (rs := [.cell 4 72, .tmp 5]) rfl ?_⟩⟩
  have hA2 := hM2.get hA (by simp)
  have hB2 := hM2.get hB (by simp)
  have hM02 := hM0.trans hM2 (by simp)
  have hz : n + 1 < w2.heap.size := (Array.getElem?_eq_some_iff.1 hB2).1
  have c2 := fun o => cellOf (o := o) hA2
  cases B
  · simp only [Bool.false_eq_true, if_false] at hE
    have cB := fun o => cellOf (o := o) hB2
    have xB := fun o => frozenOf (o := o) hB2
    simp (maxSteps := 1000000) (disch := first | omega | (simp only [sizeAlloc, sizeDrew, sizeSet, sizePut] <;> omega) | fail) only [GS, TT_eq, TTl, Nat.reduceAdd, Nat.reduceMul, Nat.reduceSub, Nat.reduceDiv, Nat.reduceMod, Nat.reducePow, Nat.reduceEqDiff, ↓reduceIte, reduceCtorEq, Int.reduceToNat, Int.reduceAdd, Int.reduceSub, Int.reduceMul, cB, xB]
    refine load10 (st10 hB2) ?_
    exact h0 2 _ hE.symm (modSet10 hM02 (.inr hgeB))
  simp only [if_true] at hE
  by_cases hnow : now < 0
  · rw [if_pos hnow] at hE
    have cB := fun o => cellOf (o := o) hB2
    have xB := fun o => frozenOf (o := o) hB2
    simp (maxSteps := 1000000) (disch := first | omega | (simp only [sizeAlloc, sizeDrew, sizeSet, sizePut] <;> omega) | fail) only [GS, TT_eq, TTl, Nat.reduceAdd, Nat.reduceMul, Nat.reduceSub, Nat.reduceDiv, Nat.reduceMod, Nat.reducePow, Nat.reduceEqDiff, ↓reduceIte, reduceCtorEq, Int.reduceToNat, Int.reduceAdd, Int.reduceSub, Int.reduceMul, cB, xB, hnow]
    refine load10 (st10 hB2) ?_
    exact h0 2 _ hE.symm (modSet10 hM02 (.inr hgeB))
  rw [if_neg hnow] at hE
  simp (maxSteps := 1000000) (disch := first | omega | (simp only [sizeAlloc, sizeDrew, sizeSet, sizePut] <;> omega) | fail) only [GS, TT_eq, TTl, Nat.reduceAdd, Nat.reduceMul, Nat.reduceSub, Nat.reduceDiv, Nat.reduceMod, Nat.reducePow, Nat.reduceEqDiff, ↓reduceIte, reduceCtorEq, Int.reduceToNat, Int.reduceAdd, Int.reduceSub, Int.reduceMul, c2, hnow]
  refine ⟨fok53, hOw _ (hin _ hM02) _ fun cv w3 hown hM3 => .inl ⟨_, rfl, hold_stop (s' := some 4) (hold_ops okT (rs := [.cell 4 72, .tmp 5]) rfl ?_)⟩⟩
  have hB3 := hM3.get hB2 (by simp)
  have hM03 := hM02.trans hM3 (by simp)
  have oc := ownsRow_one hown
  simp (maxSteps := 1000000) (disch := first | omega | (simp only [sizeAlloc, sizeDrew, sizeSet, sizePut] <;> omega) | fail) only [GS, TT_eq, TTl, Nat.reduceAdd, Nat.reduceMul, Nat.reduceSub, Nat.reduceDiv, Nat.reduceMod, Nat.reducePow, Nat.reduceEqDiff, ↓reduceIte, reduceCtorEq, Int.reduceToNat, Int.reduceAdd, Int.reduceSub, Int.reduceMul, oc, cellsL_one oc]
  generalize hW : (((((((((((w3.alloc (.cells #[.int .i64 0, .int .i64 0, .int .i64 0, .int .i64 0, .slice none 0 0, .int .i64 0, .string ⟨#[]⟩, .int .u8 0, .string ⟨#[]⟩, .int .i64 0] 72)).setCell ⟨w3.heap.size, 0, none⟩ (.int .i64 xa)).setCell ⟨w3.heap.size, 1, none⟩ (.int .i64 xb)).setCell ⟨w3.heap.size, 2, none⟩ (.int .i64 xc)).setCell ⟨w3.heap.size, 3, none⟩ (.int .i64 aud)).setCell ⟨w3.heap.size, 4, none⟩ (cv)).setCell ⟨w3.heap.size, 5, none⟩ (.int .i64 org)).setCell ⟨w3.heap.size, 6, none⟩ (.string ⟨body.toArray⟩)).setCell ⟨w3.heap.size, 7, none⟩ (.int .u8 st)).setCell ⟨w3.heap.size, 8, none⟩ (.string ⟨tag.toArray⟩)).setCell ⟨w3.heap.size, 9, none⟩ (.int .i64 sent)) = w4
  obtain ⟨hP, hM34⟩ : w4.heap[w3.heap.size]? = some (.cells #[.int .i64 xa, .int .i64 xb, .int .i64 xc, .int .i64 aud, cv, .int .i64 org, .string ⟨body.toArray⟩, .int .u8 st, .string ⟨tag.toArray⟩, .int .i64 sent] 72 (0, 0)) ∧ Mod [] w3 w4 := by
    subst hW
    exact ⟨st10 heapNew, modSet10 ((Mod.refl [] w3).alloc _) (.inr (Nat.le_refl _))⟩
  clear hW
  have hB4 := hM34.get hB3 (by simp)
  have hM04 := hM03.trans hM34 (by simp)
  have hown4 := ownsRow_mod hown hM34 (by simp)
  have hlt4 : ∀ g, cv.ownBlock = some g → g < w3.heap.size := fun g hg => (hown.lt g hg).2
  have hqb : n + 1 < w3.heap.size := by have := hM3.size; omega
  have hgeQ : w.heap.size ≤ w3.heap.size := hM03.size
  generalize w3.heap.size = q at *
  have c4 := fun o => cellOf (o := o) hP
  have x4 := fun o => frozenOf (o := o) hP
  refine hold_stop (s' := some 5) ?_
  refine hold_code okT (rs := [.cell 4 72, .tmp 5]) rfl ?_
  simp (maxSteps := 1000000) (disch := first | omega | (simp only [sizeAlloc, sizeDrew, sizeSet, sizePut] <;> omega) | fail) only [GS, TT_eq, TTl, Nat.reduceAdd, Nat.reduceMul, Nat.reduceSub, Nat.reduceDiv, Nat.reduceMod, Nat.reducePow, Nat.reduceEqDiff, ↓reduceIte, reduceCtorEq, Int.reduceToNat, Int.reduceAdd, Int.reduceSub, Int.reduceMul, c4, x4]
  have hP7 : (w4.setCell ⟨q, 9, none⟩ (.int .i64 now)).heap[q]? = some (.cells #[.int .i64 xa, .int .i64 xb, .int .i64 xc, .int .i64 aud, cv, .int .i64 org, .string ⟨body.toArray⟩, .int .u8 st, .string ⟨tag.toArray⟩, .int .i64 now] 72 (0, 0)) := by rw [heapSet (hP)]; rfl
  have hB7 := heapSetNe (b := q) (j := 9) (u := .int .i64 now) (hB4) (by omega)
  have hM07 := (hM04).set (p := ⟨q, 9, none⟩) (.inr hgeQ) (.int .i64 now)
  have hown7 := ownsRow_mod' hown4 ((Mod.refl [q] w4).set (p := ⟨q, 9, none⟩) (.inl (by simp)) (.int .i64 now)) (fun g hg => by have := hlt4 g hg; simp; omega)
  revert hP7 hB7 hM07 hown7
  generalize (w4.setCell ⟨q, 9, none⟩ (.int .i64 now)) = w7
  intro hP7 hB7 hM07 hown7
  refine hold_stop (s' := none) ?_
  refine hold_code okT (rs := [.cell 4 72, .tmp 5]) rfl ?_
  have cA := fun o => cellOf (o := o) hP7
  have cB := fun o => cellOf (o := o) hB7
  have xB := fun o => frozenOf (o := o) hB7
  simp (maxSteps := 1000000) (disch := first | omega | (simp only [sizeAlloc, sizeDrew, sizeSet, sizePut] <;> omega) | fail) only [GS, TT_eq, TTl, Nat.reduceAdd, Nat.reduceMul, Nat.reduceSub, Nat.reduceDiv, Nat.reduceMod, Nat.reducePow, Nat.reduceEqDiff, ↓reduceIte, reduceCtorEq, Int.reduceToNat, Int.reduceAdd, Int.reduceSub, Int.reduceMul, cA, cB, xB, oc, cellsL_one oc]
  refine load10 (st10 hB7) ?_
  refine h1 _ cv _ hE.symm ?_ (modSet10 hM07 (.inr hgeB))
  exact ownsRow_base (ownsRow_mod (S := [n + 1]) hown7 (modSet10 (F := [n + 1]) (p := n + 1) (x0 := .int .i64 xa) (x1 := .int .i64 xb) (x2 := .int .i64 xc) (x3 := .int .i64 aud) (x4 := cv) (x5 := .int .i64 org) (x6 := .string ⟨body.toArray⟩) (x7 := .int .u8 st) (x8 := .string ⟨tag.toArray⟩) (x9 := .int .i64 now) (Mod.refl [n + 1] w7) (.inl (by simp))) (by simp; omega)) (by omega)
set_option maxRecDepth 20000 in
set_option maxHeartbeats 16000000 in
theorem rLearn_cps (p : Pt) (ms : Value) (cm : Bool) (w : World) (h : PtIn w p ms) (R : Ending → World → Prop)
    (h1 : ∀ q cv w', learnE p cm = .ok q → w'.ownsRow w.heap.size 126 2 cv q.mbs.length (q.mbs.flatMap mbC) → Mod [] w w' → R (.returned (.tuple #[ptV q cv, .int .i64 0])) w')
    (h0 : ∀ c w', learnE p cm = .error c → Mod [] w w' → R (.returned (.tuple #[ptZ, .int .i64 c])) w') :
    Calls Tryz.prog 57 #[ptV p ms, .bool cm] w R := by
  generalize hE : learnE p cm = E at h1 h0
  unfold learnE toN at hE
  have hMy := fun w h => rMayPt_cps p ms w h
  have hOw := fun w h => rOwn_cps p ms w h
  have hin := fun w' hM => (h.mod hM : PtIn w' p ms)
  have hst := h.st
  have hse := h.sent
  have os : ms.oneCell' = true := by obtain ⟨a, c, e⟩ := h.rd.slice; rw [e]; rfl
  have hm15 : mayPt p = true → (1 ≤ p.st ∧ p.st ≤ 5) ∧ tagB p.st p.tag = true := fun h => by
    unfold mayPt at h
    simp only [Bool.and_eq_true, decide_eq_true_eq] at h
    exact ⟨h.1.1.1.1, h.2⟩
  clear h
  unfold ptZ at h0
  generalize mayPt p = B at *
  obtain ⟨⟨xa, xb, xc⟩, aud, mbs, org, body, st, tag, sent⟩ := p
  unfold ptV ptC at *
  simp only at hMy hOw hst hse hm15 ⊢
  refine calls_go 4000 okT Tryz.func57 rfl (rs := [.cell 4 72, .tmp 5]) rfl Tryz.ntmps57 (args := [.agg #[.int .i64 xa, .int .i64 xb, .int .i64 xc, .int .i64 aud, ms, .int .i64 org, .string ⟨body.toArray⟩, .int .u8 st, .string ⟨tag.toArray⟩, .int .i64 sent], .bool cm]) ?_
  simp (maxSteps := 1000000) (disch := first | omega | (simp only [sizeAlloc, sizeDrew, sizeSet, sizePut] <;> omega) | fail) only [GS, TT_eq, TTl, Nat.reduceAdd, Nat.reduceMul, Nat.reduceSub, Nat.reduceDiv, Nat.reduceMod, Nat.reducePow, Nat.reduceEqDiff, ↓reduceIte, reduceCtorEq, Int.reduceToNat, Int.reduceAdd, Int.reduceSub, Int.reduceMul, os, cellsL_one os]
  generalize hW : (w.alloc (.cells #[.int .i64 xa, .int .i64 xb, .int .i64 xc, .int .i64 aud, ms, .int .i64 org, .string ⟨body.toArray⟩, .int .u8 st, .string ⟨tag.toArray⟩, .int .i64 sent] 72)).alloc (.cells #[.int .i64 0, .int .i64 0, .int .i64 0, .int .i64 0, .slice none 0 0, .int .i64 0, .string ⟨#[]⟩, .int .u8 0, .string ⟨#[]⟩, .int .i64 0] 72) = w1
  obtain ⟨hA, hB, hM0⟩ := two10 hW
  clear hW
  generalize hn : w.heap.size = n at *
  have hgeB : w.heap.size ≤ n + 1 := by omega
  have hgeA : w.heap.size ≤ n := by omega
  refine ⟨fok70, hMy _ (hin _ hM0) _ fun w2 hM2 => .inl ⟨_, rfl, hold_ops okT (rs := [.cell 4 72, .tmp 5]) rfl ?_⟩⟩
  have hA2 := hM2.get hA (by simp)
  have hB2 := hM2.get hB (by simp)
  have hM02 := hM0.trans hM2 (by simp)
  have hz : n + 1 < w2.heap.size := (Array.getElem?_eq_some_iff.1 hB2).1
  have c2 := fun o => cellOf (o := o) hA2
  cases B
  · simp only [Bool.false_eq_true, if_false] at hE
    have cB := fun o => cellOf (o := o) hB2
    have xB := fun o => frozenOf (o := o) hB2
    simp (maxSteps := 1000000) (disch := first | omega | (simp only [sizeAlloc, sizeDrew, sizeSet, sizePut] <;> omega) | fail) only [GS, TT_eq, TTl, Nat.reduceAdd, Nat.reduceMul, Nat.reduceSub, Nat.reduceDiv, Nat.reduceMod, Nat.reducePow, Nat.reduceEqDiff, ↓reduceIte, reduceCtorEq, Int.reduceToNat, Int.reduceAdd, Int.reduceSub, Int.reduceMul, cB, xB]
    refine load10 (st10 hB2) ?_
    exact h0 2 _ hE.symm (modSet10 hM02 (.inr hgeB))
  simp only [if_true] at hE
  have hs15 := (hm15 rfl).1
  cases cm
  all_goals simp only [cond_true, cond_false] at hE
  · by_cases hto : st = 5
    · rw [if_pos hto] at hE
      have cB := fun o => cellOf (o := o) hB2
      have xB := fun o => frozenOf (o := o) hB2
      simp (maxSteps := 1000000) (disch := first | omega | (simp only [sizeAlloc, sizeDrew, sizeSet, sizePut] <;> omega) | fail) only [GS, TT_eq, TTl, Nat.reduceAdd, Nat.reduceMul, Nat.reduceSub, Nat.reduceDiv, Nat.reduceMod, Nat.reducePow, Nat.reduceEqDiff, ↓reduceIte, reduceCtorEq, Int.reduceToNat, Int.reduceAdd, Int.reduceSub, Int.reduceMul, cB, xB, c2, (decide_eq_true (show (st : Int) = 5 by omega))]
      refine load10 (st10 hB2) ?_
      exact h0 9 _ hE.symm (modSet10 hM02 (.inr hgeB))
    rw [if_neg hto] at hE
    by_cases hot : st = 4
    · rw [if_pos (.inl (decide_eq_true (by omega)))] at hE
      have cB := fun o => cellOf (o := o) hB2
      have xB := fun o => frozenOf (o := o) hB2
      simp (maxSteps := 1000000) (disch := first | omega | (simp only [sizeAlloc, sizeDrew, sizeSet, sizePut] <;> omega) | fail) only [GS, TT_eq, TTl, Nat.reduceAdd, Nat.reduceMul, Nat.reduceSub, Nat.reduceDiv, Nat.reduceMod, Nat.reducePow, Nat.reduceEqDiff, ↓reduceIte, reduceCtorEq, Int.reduceToNat, Int.reduceAdd, Int.reduceSub, Int.reduceMul, cB, xB, c2, (decide_eq_false (show ¬ (st : Int) = 5 by omega)), (decide_eq_true (show (st : Int) = 4 by omega))]
      refine load10 (st10 hB2) ?_
      exact h0 8 _ hE.symm (modSet10 hM02 (.inr hgeB))
    have hO : sO st = false := decide_eq_false (by omega)
    rw [if_neg (fun h => by rcases h with h | h; rw [hO] at h; simp at h; exact absurd h.1 (by simp))] at hE
    simp (maxSteps := 1000000) (disch := first | omega | (simp only [sizeAlloc, sizeDrew, sizeSet, sizePut] <;> omega) | fail) only [GS, TT_eq, TTl, Nat.reduceAdd, Nat.reduceMul, Nat.reduceSub, Nat.reduceDiv, Nat.reduceMod, Nat.reducePow, Nat.reduceEqDiff, ↓reduceIte, reduceCtorEq, Int.reduceToNat, Int.reduceAdd, Int.reduceSub, Int.reduceMul, c2, (decide_eq_false (show ¬ (st : Int) = 5 by omega)), (decide_eq_false (show ¬ (st : Int) = 4 by omega))]
    refine ⟨fok53, hOw _ (hin _ hM02) _ fun cv w3 hown hM3 => .inl ⟨_, rfl, hold_stop (s' := some 11) (hold_ops okT (rs := [.cell 4 72, .tmp 5]) rfl ?_)⟩⟩
    have hB3 := hM3.get hB2 (by simp)
    have hM03 := hM02.trans hM3 (by simp)
    have oc := ownsRow_one hown
    simp (maxSteps := 1000000) (disch := first | omega | (simp only [sizeAlloc, sizeDrew, sizeSet, sizePut] <;> omega) | fail) only [GS, TT_eq, TTl, Nat.reduceAdd, Nat.reduceMul, Nat.reduceSub, Nat.reduceDiv, Nat.reduceMod, Nat.reducePow, Nat.reduceEqDiff, ↓reduceIte, reduceCtorEq, Int.reduceToNat, Int.reduceAdd, Int.reduceSub, Int.reduceMul, oc, cellsL_one oc]
    generalize hW : (((((((((((w3.alloc (.cells #[.int .i64 0, .int .i64 0, .int .i64 0, .int .i64 0, .slice none 0 0, .int .i64 0, .string ⟨#[]⟩, .int .u8 0, .string ⟨#[]⟩, .int .i64 0] 72)).setCell ⟨w3.heap.size, 0, none⟩ (.int .i64 xa)).setCell ⟨w3.heap.size, 1, none⟩ (.int .i64 xb)).setCell ⟨w3.heap.size, 2, none⟩ (.int .i64 xc)).setCell ⟨w3.heap.size, 3, none⟩ (.int .i64 aud)).setCell ⟨w3.heap.size, 4, none⟩ (cv)).setCell ⟨w3.heap.size, 5, none⟩ (.int .i64 org)).setCell ⟨w3.heap.size, 6, none⟩ (.string ⟨body.toArray⟩)).setCell ⟨w3.heap.size, 7, none⟩ (.int .u8 st)).setCell ⟨w3.heap.size, 8, none⟩ (.string ⟨tag.toArray⟩)).setCell ⟨w3.heap.size, 9, none⟩ (.int .i64 sent)) = w4
    obtain ⟨hP, hM34⟩ : w4.heap[w3.heap.size]? = some (.cells #[.int .i64 xa, .int .i64 xb, .int .i64 xc, .int .i64 aud, cv, .int .i64 org, .string ⟨body.toArray⟩, .int .u8 st, .string ⟨tag.toArray⟩, .int .i64 sent] 72 (0, 0)) ∧ Mod [] w3 w4 := by
      subst hW
      exact ⟨st10 heapNew, modSet10 ((Mod.refl [] w3).alloc _) (.inr (Nat.le_refl _))⟩
    clear hW
    have hB4 := hM34.get hB3 (by simp)
    have hM04 := hM03.trans hM34 (by simp)
    have hown4 := ownsRow_mod hown hM34 (by simp)
    have hlt4 : ∀ g, cv.ownBlock = some g → g < w3.heap.size := fun g hg => (hown.lt g hg).2
    have hqb : n + 1 < w3.heap.size := by have := hM3.size; omega
    have hgeQ : w.heap.size ≤ w3.heap.size := hM03.size
    generalize w3.heap.size = q at *
    have c4 := fun o => cellOf (o := o) hP
    have x4 := fun o => frozenOf (o := o) hP
    refine hold_stop (s' := some 12) ?_
    refine hold_code okT (rs := [.cell 4 72, .tmp 5]) rfl ?_
    simp (maxSteps := 1000000) (disch := first | omega | (simp only [sizeAlloc, sizeDrew, sizeSet, sizePut] <;> omega) | fail) only [GS, TT_eq, TTl, Nat.reduceAdd, Nat.reduceMul, Nat.reduceSub, Nat.reduceDiv, Nat.reduceMod, Nat.reducePow, Nat.reduceEqDiff, ↓reduceIte, reduceCtorEq, Int.reduceToNat, Int.reduceAdd, Int.reduceSub, Int.reduceMul, c4, x4]
    have hP7 : (w4.setCell ⟨q, 7, none⟩ (.int .u8 5)).heap[q]? = some (.cells #[.int .i64 xa, .int .i64 xb, .int .i64 xc, .int .i64 aud, cv, .int .i64 org, .string ⟨body.toArray⟩, .int .u8 5, .string ⟨tag.toArray⟩, .int .i64 sent] 72 (0, 0)) := by rw [heapSet (hP)]; rfl
    have hB7 := heapSetNe (b := q) (j := 7) (u := .int .u8 5) (hB4) (by omega)
    have hM07 := (hM04).set (p := ⟨q, 7, none⟩) (.inr hgeQ) (.int .u8 5)
    have hown7 := ownsRow_mod' hown4 ((Mod.refl [q] w4).set (p := ⟨q, 7, none⟩) (.inl (by simp)) (.int .u8 5)) (fun g hg => by have := hlt4 g hg; simp; omega)
    revert hP7 hB7 hM07 hown7
    generalize (w4.setCell ⟨q, 7, none⟩ (.int .u8 5)) = w7
    intro hP7 hB7 hM07 hown7
    refine hold_stop (s' := none) ?_
    refine hold_code okT (rs := [.cell 4 72, .tmp 5]) rfl ?_
    have cA := fun o => cellOf (o := o) hP7
    have cB := fun o => cellOf (o := o) hB7
    have xB := fun o => frozenOf (o := o) hB7
    simp (maxSteps := 1000000) (disch := first | omega | (simp only [sizeAlloc, sizeDrew, sizeSet, sizePut] <;> omega) | fail) only [GS, TT_eq, TTl, Nat.reduceAdd, Nat.reduceMul, Nat.reduceSub, Nat.reduceDiv, Nat.reduceMod, Nat.reducePow, Nat.reduceEqDiff, ↓reduceIte, reduceCtorEq, Int.reduceToNat, Int.reduceAdd, Int.reduceSub, Int.reduceMul, cA, cB, xB, oc, cellsL_one oc]
    refine load10 (st10 hB7) ?_
    refine h1 _ cv _ hE.symm ?_ (modSet10 hM07 (.inr hgeB))
    exact ownsRow_base (ownsRow_mod (S := [n + 1]) hown7 (modSet10 (F := [n + 1]) (p := n + 1) (x0 := .int .i64 xa) (x1 := .int .i64 xb) (x2 := .int .i64 xc) (x3 := .int .i64 aud) (x4 := cv) (x5 := .int .i64 org) (x6 := .string ⟨body.toArray⟩) (x7 := .int .u8 5) (x8 := .string ⟨tag.toArray⟩) (x9 := .int .i64 sent) (Mod.refl [n + 1] w7) (.inl (by simp))) (by simp; omega)) (by omega)
  · by_cases hto : st = 4
    · rw [if_pos hto] at hE
      have cB := fun o => cellOf (o := o) hB2
      have xB := fun o => frozenOf (o := o) hB2
      simp (maxSteps := 1000000) (disch := first | omega | (simp only [sizeAlloc, sizeDrew, sizeSet, sizePut] <;> omega) | fail) only [GS, TT_eq, TTl, Nat.reduceAdd, Nat.reduceMul, Nat.reduceSub, Nat.reduceDiv, Nat.reduceMod, Nat.reducePow, Nat.reduceEqDiff, ↓reduceIte, reduceCtorEq, Int.reduceToNat, Int.reduceAdd, Int.reduceSub, Int.reduceMul, cB, xB, c2, (decide_eq_true (show (st : Int) = 4 by omega))]
      refine load10 (st10 hB2) ?_
      exact h0 9 _ hE.symm (modSet10 hM02 (.inr hgeB))
    rw [if_neg hto] at hE
    by_cases hot : st = 5
    · rw [if_pos (.inl (decide_eq_true (by omega)))] at hE
      have cB := fun o => cellOf (o := o) hB2
      have xB := fun o => frozenOf (o := o) hB2
      simp (maxSteps := 1000000) (disch := first | omega | (simp only [sizeAlloc, sizeDrew, sizeSet, sizePut] <;> omega) | fail) only [GS, TT_eq, TTl, Nat.reduceAdd, Nat.reduceMul, Nat.reduceSub, Nat.reduceDiv, Nat.reduceMod, Nat.reducePow, Nat.reduceEqDiff, ↓reduceIte, reduceCtorEq, Int.reduceToNat, Int.reduceAdd, Int.reduceSub, Int.reduceMul, cB, xB, c2, (decide_eq_false (show ¬ (st : Int) = 4 by omega)), (decide_eq_true (show (st : Int) = 5 by omega))]
      refine load10 (st10 hB2) ?_
      exact h0 8 _ hE.symm (modSet10 hM02 (.inr hgeB))
    have hO : sO st = false := decide_eq_false (by omega)
    by_cases hs2 : st = 2
    rotate_left
    · rw [if_pos (.inr ⟨trivial, decide_eq_false hs2⟩)] at hE
      have cB := fun o => cellOf (o := o) hB2
      have xB := fun o => frozenOf (o := o) hB2
      simp (maxSteps := 1000000) (disch := first | omega | (simp only [sizeAlloc, sizeDrew, sizeSet, sizePut] <;> omega) | fail) only [GS, TT_eq, TTl, Nat.reduceAdd, Nat.reduceMul, Nat.reduceSub, Nat.reduceDiv, Nat.reduceMod, Nat.reducePow, Nat.reduceEqDiff, ↓reduceIte, reduceCtorEq, Int.reduceToNat, Int.reduceAdd, Int.reduceSub, Int.reduceMul, cB, xB, c2, (decide_eq_false (show ¬ (st : Int) = 4 by omega)), (decide_eq_false (show ¬ (st : Int) = 5 by omega)), (decide_eq_false (show ¬ (st : Int) = 2 by omega))]
      refine load10 (st10 hB2) ?_
      exact h0 8 _ hE.symm (modSet10 hM02 (.inr hgeB))
    rw [if_neg (fun h => by rcases h with h | h; rw [hO] at h; simp at h; have := of_decide_eq_false h.2; exact this hs2)] at hE
    simp (maxSteps := 1000000) (disch := first | omega | (simp only [sizeAlloc, sizeDrew, sizeSet, sizePut] <;> omega) | fail) only [GS, TT_eq, TTl, Nat.reduceAdd, Nat.reduceMul, Nat.reduceSub, Nat.reduceDiv, Nat.reduceMod, Nat.reducePow, Nat.reduceEqDiff, ↓reduceIte, reduceCtorEq, Int.reduceToNat, Int.reduceAdd, Int.reduceSub, Int.reduceMul, c2, (decide_eq_false (show ¬ (st : Int) = 4 by omega)), (decide_eq_false (show ¬ (st : Int) = 5 by omega)), (decide_eq_true (show (st : Int) = 2 by omega))]
    refine ⟨fok53, hOw _ (hin _ hM02) _ fun cv w3 hown hM3 => .inl ⟨_, rfl, hold_stop (s' := some 11) (hold_ops okT (rs := [.cell 4 72, .tmp 5]) rfl ?_)⟩⟩
    have hB3 := hM3.get hB2 (by simp)
    have hM03 := hM02.trans hM3 (by simp)
    have oc := ownsRow_one hown
    simp (maxSteps := 1000000) (disch := first | omega | (simp only [sizeAlloc, sizeDrew, sizeSet, sizePut] <;> omega) | fail) only [GS, TT_eq, TTl, Nat.reduceAdd, Nat.reduceMul, Nat.reduceSub, Nat.reduceDiv, Nat.reduceMod, Nat.reducePow, Nat.reduceEqDiff, ↓reduceIte, reduceCtorEq, Int.reduceToNat, Int.reduceAdd, Int.reduceSub, Int.reduceMul, oc, cellsL_one oc]
    generalize hW : (((((((((((w3.alloc (.cells #[.int .i64 0, .int .i64 0, .int .i64 0, .int .i64 0, .slice none 0 0, .int .i64 0, .string ⟨#[]⟩, .int .u8 0, .string ⟨#[]⟩, .int .i64 0] 72)).setCell ⟨w3.heap.size, 0, none⟩ (.int .i64 xa)).setCell ⟨w3.heap.size, 1, none⟩ (.int .i64 xb)).setCell ⟨w3.heap.size, 2, none⟩ (.int .i64 xc)).setCell ⟨w3.heap.size, 3, none⟩ (.int .i64 aud)).setCell ⟨w3.heap.size, 4, none⟩ (cv)).setCell ⟨w3.heap.size, 5, none⟩ (.int .i64 org)).setCell ⟨w3.heap.size, 6, none⟩ (.string ⟨body.toArray⟩)).setCell ⟨w3.heap.size, 7, none⟩ (.int .u8 st)).setCell ⟨w3.heap.size, 8, none⟩ (.string ⟨tag.toArray⟩)).setCell ⟨w3.heap.size, 9, none⟩ (.int .i64 sent)) = w4
    obtain ⟨hP, hM34⟩ : w4.heap[w3.heap.size]? = some (.cells #[.int .i64 xa, .int .i64 xb, .int .i64 xc, .int .i64 aud, cv, .int .i64 org, .string ⟨body.toArray⟩, .int .u8 st, .string ⟨tag.toArray⟩, .int .i64 sent] 72 (0, 0)) ∧ Mod [] w3 w4 := by
      subst hW
      exact ⟨st10 heapNew, modSet10 ((Mod.refl [] w3).alloc _) (.inr (Nat.le_refl _))⟩
    clear hW
    have hB4 := hM34.get hB3 (by simp)
    have hM04 := hM03.trans hM34 (by simp)
    have hown4 := ownsRow_mod hown hM34 (by simp)
    have hlt4 : ∀ g, cv.ownBlock = some g → g < w3.heap.size := fun g hg => (hown.lt g hg).2
    have hqb : n + 1 < w3.heap.size := by have := hM3.size; omega
    have hgeQ : w.heap.size ≤ w3.heap.size := hM03.size
    generalize w3.heap.size = q at *
    have c4 := fun o => cellOf (o := o) hP
    have x4 := fun o => frozenOf (o := o) hP
    refine hold_stop (s' := some 12) ?_
    refine hold_code okT (rs := [.cell 4 72, .tmp 5]) rfl ?_
    simp (maxSteps := 1000000) (disch := first | omega | (simp only [sizeAlloc, sizeDrew, sizeSet, sizePut] <;> omega) | fail) only [GS, TT_eq, TTl, Nat.reduceAdd, Nat.reduceMul, Nat.reduceSub, Nat.reduceDiv, Nat.reduceMod, Nat.reducePow, Nat.reduceEqDiff, ↓reduceIte, reduceCtorEq, Int.reduceToNat, Int.reduceAdd, Int.reduceSub, Int.reduceMul, c4, x4]
    have hP7 : (w4.setCell ⟨q, 7, none⟩ (.int .u8 4)).heap[q]? = some (.cells #[.int .i64 xa, .int .i64 xb, .int .i64 xc, .int .i64 aud, cv, .int .i64 org, .string ⟨body.toArray⟩, .int .u8 4, .string ⟨tag.toArray⟩, .int .i64 sent] 72 (0, 0)) := by rw [heapSet (hP)]; rfl
    have hB7 := heapSetNe (b := q) (j := 7) (u := .int .u8 4) (hB4) (by omega)
    have hM07 := (hM04).set (p := ⟨q, 7, none⟩) (.inr hgeQ) (.int .u8 4)
    have hown7 := ownsRow_mod' hown4 ((Mod.refl [q] w4).set (p := ⟨q, 7, none⟩) (.inl (by simp)) (.int .u8 4)) (fun g hg => by have := hlt4 g hg; simp; omega)
    revert hP7 hB7 hM07 hown7
    generalize (w4.setCell ⟨q, 7, none⟩ (.int .u8 4)) = w7
    intro hP7 hB7 hM07 hown7
    refine hold_stop (s' := none) ?_
    refine hold_code okT (rs := [.cell 4 72, .tmp 5]) rfl ?_
    have cA := fun o => cellOf (o := o) hP7
    have cB := fun o => cellOf (o := o) hB7
    have xB := fun o => frozenOf (o := o) hB7
    simp (maxSteps := 1000000) (disch := first | omega | (simp only [sizeAlloc, sizeDrew, sizeSet, sizePut] <;> omega) | fail) only [GS, TT_eq, TTl, Nat.reduceAdd, Nat.reduceMul, Nat.reduceSub, Nat.reduceDiv, Nat.reduceMod, Nat.reducePow, Nat.reduceEqDiff, ↓reduceIte, reduceCtorEq, Int.reduceToNat, Int.reduceAdd, Int.reduceSub, Int.reduceMul, cA, cB, xB, oc, cellsL_one oc]
    refine load10 (st10 hB7) ?_
    refine h1 _ cv _ hE.symm ?_ (modSet10 hM07 (.inr hgeB))
    exact ownsRow_base (ownsRow_mod (S := [n + 1]) hown7 (modSet10 (F := [n + 1]) (p := n + 1) (x0 := .int .i64 xa) (x1 := .int .i64 xb) (x2 := .int .i64 xc) (x3 := .int .i64 aud) (x4 := cv) (x5 := .int .i64 org) (x6 := .string ⟨body.toArray⟩) (x7 := .int .u8 4) (x8 := .string ⟨tag.toArray⟩) (x9 := .int .i64 sent) (Mod.refl [n + 1] w7) (.inl (by simp))) (by simp; omega)) (by omega)
end Go.Proofs.YtpcilobbohokcaaGreat
