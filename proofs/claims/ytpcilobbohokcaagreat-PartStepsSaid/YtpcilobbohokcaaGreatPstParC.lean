/-
  part: the reference's New, Asks, Ballot, Due, What (walks).
-/
import Derived.Test.YtpcilobbohokcaaGreatPstParB
import Derived.Test.YtpcilobbohokcaaGreatPstW6
import Derived.Test.YtpcilobbohokcaaGreatPstW4
import Derived.Test.YtpcilobbohokcaaGreatPstMpr
import Derived.Test.YtpcilobbohokcaaGreatPstRefC
set_option linter.unusedSimpArgs false
set_option linter.unusedVariables false
set_option maxRecDepth 20000
namespace Go.Proofs.YtpcilobbohokcaaGreat
open Go Go.Wk Go.RowKit
attribute [local irreducible] go Hold
open Go.Lib
set_option maxRecDepth 20000 in
set_option maxHeartbeats 16000000 in
theorem rWhat_cps (p : Pt) (ms : Value) (w : World) (h : PtIn w p ms) (R : Ending → World → Prop) (hR : ∀ w', Mod [] w w' → R (.returned (.tuple #[msgV (whatM p).1 (.slice none 0 0), .bool (whatM p).2])) w') :
    Calls Tryz.prog 61 #[ptV p ms] w R := by
  unfold whatM at hR
  have hMy := fun w h => rMayPt_cps p ms w h
  have hOw := fun w h => rOwn_cps p ms w h
  have hin := fun w' hM => (h.mod hM : PtIn w' p ms)
  have hst := h.st
  have hse := h.sent
  have os : ms.oneCell' = true := by obtain ⟨a, c, e⟩ := h.rd.slice; rw [e]; rfl
  have hm15 : mayPt p = true → (1 ≤ p.st ∧ p.st ≤ 5) ∧ tagB p.st p.tag = true := fun h => by
    unfold mayPt at h
    simp only [Bool.and_eq_true, decide_eq_true_eq] at h
    exact ⟨h.1.1.1.1, h.2⟩
  clear h
  generalize mayPt p = B at *
  obtain ⟨⟨xa, xb, xc⟩, aud, mbs, org, body, st, tag, sent⟩ := p
  unfold ptV ptC at *
  simp only at hR hMy hOw hst hse hm15 ⊢
  refine calls_go 4000 okT Tryz.func61 rfl (rs := [.cell 2 35, .tmp 3]) rfl Tryz.ntmps61 (args := [.agg #[.int .i64 xa, .int .i64 xb, .int .i64 xc, .int .i64 aud, ms, .int .i64 org, .string ⟨body.toArray⟩, .int .u8 st, .string ⟨tag.toArray⟩, .int .i64 sent]]) ?_
  simp (maxSteps := 1000000) (disch := first | omega | (simp only [sizeAlloc, sizeDrew, sizeSet, sizePut] <;> omega) | fail) only [GS, TT_eq, TTl, Nat.reduceAdd, Nat.reduceMul, Nat.reduceSub, Nat.reduceDiv, Nat.reduceMod, Nat.reducePow, Nat.reduceEqDiff, ↓reduceIte, reduceCtorEq, Int.reduceToNat, Int.reduceAdd, Int.reduceSub, Int.reduceMul, os, cellsL_one os]
  generalize hW : (w.alloc (.cells #[.int .i64 xa, .int .i64 xb, .int .i64 xc, .int .i64 aud, ms, .int .i64 org, .string ⟨body.toArray⟩, .int .u8 st, .string ⟨tag.toArray⟩, .int .i64 sent] 72)).alloc (.cells #[.int .u8 0, .int .i64 0, .int .i64 0, .int .i64 0, .int .i64 0, .slice none 0 0, .string ⟨#[]⟩, .bool false, .string ⟨#[]⟩] 35) = w1
  obtain ⟨hA, hB, hM0⟩ := two10 hW
  clear hW
  generalize hn : w.heap.size = n at *
  have hgeB : w.heap.size ≤ n + 1 := by omega
  have hgeA : w.heap.size ≤ n := by omega
  refine ⟨fok70, hMy _ (hin _ hM0) _ fun w2 hM2 => .inl ⟨_, rfl, hold_ops okT (rs := [.cell 2 35, .tmp 3]) rfl ?_⟩⟩
  have hA2 := hM2.get hA (by simp)
  have hB2 := hM2.get hB (by simp)
  have hM02 := hM0.trans hM2 (by simp)
  have hz : n + 1 < w2.heap.size := (Array.getElem?_eq_some_iff.1 hB2).1
  have c2 := fun o => cellOf (o := o) hA2
  cases B
  · rw [if_neg (fun h => by simp at h)] at hR
    have d2 := fun o => cellOf (o := o) hB2
    have x2 := fun o => frozenOf (o := o) hB2
    unfold msgV msgC at hR
    simp (maxSteps := 1000000) (disch := first | omega | (simp only [sizeAlloc, sizeDrew, sizeSet, sizePut] <;> omega) | fail) only [GS, TT_eq, TTl, Nat.reduceAdd, Nat.reduceMul, Nat.reduceSub, Nat.reduceDiv, Nat.reduceMod, Nat.reducePow, Nat.reduceEqDiff, ↓reduceIte, reduceCtorEq, Int.reduceToNat, Int.reduceAdd, Int.reduceSub, Int.reduceMul, d2, x2]
    refine load9p (st9p hB2) ?_
    exact hR _ (modSet9p hM02 (.inr hgeB))
  obtain ⟨hs15, htg⟩ := hm15 rfl
  have d2 := fun o => cellOf (o := o) hB2
  have x2 := fun o => frozenOf (o := o) hB2
  have hsC : st = 1 ∨ st = 2 ∨ st = 3 ∨ st = 4 ∨ st = 5 := by omega
  rcases hsC with hs | hs | hs | hs | hs
  · rw [if_neg (fun h => h.2 hs)] at hR
    unfold msgV msgC at hR
    simp (maxSteps := 1000000) (disch := first | omega | (simp only [sizeAlloc, sizeDrew, sizeSet, sizePut] <;> omega) | fail) only [GS, TT_eq, TTl, Nat.reduceAdd, Nat.reduceMul, Nat.reduceSub, Nat.reduceDiv, Nat.reduceMod, Nat.reducePow, Nat.reduceEqDiff, ↓reduceIte, reduceCtorEq, Int.reduceToNat, Int.reduceAdd, Int.reduceSub, Int.reduceMul, c2, d2, x2, (decide_eq_false (show ¬ (st : Int) = 2 by omega)), (decide_eq_false (show ¬ (st : Int) = 3 by omega)), (decide_eq_false (show ¬ (st : Int) = 4 by omega)), (decide_eq_false (show ¬ (st : Int) = 5 by omega))]
    refine load9p (st9p hB2) ?_
    exact hR _ (modSet9p hM02 (.inr hgeB))
  · rw [if_pos ⟨rfl, by omega⟩, if_neg (by rw [show sO st = false from decide_eq_false (by omega)]; simp), decide_eq_true hs] at hR
    unfold msgV msgC at hR
    simp (maxSteps := 1000000) (disch := first | omega | (simp only [sizeAlloc, sizeDrew, sizeSet, sizePut] <;> omega) | fail) only [GS, TT_eq, TTl, Nat.reduceAdd, Nat.reduceMul, Nat.reduceSub, Nat.reduceDiv, Nat.reduceMod, Nat.reducePow, Nat.reduceEqDiff, ↓reduceIte, reduceCtorEq, Int.reduceToNat, Int.reduceAdd, Int.reduceSub, Int.reduceMul, c2, d2, x2, (decide_eq_true (show (st : Int) = 2 by omega))]
    refine load9p (st9p hB2) ?_
    exact hR _ (modSet9p hM02 (.inr hgeB))
  · have ht0 : tag = [] := by
      unfold tagB at htg
      rw [if_neg (by omega), if_neg (by omega)] at htg
      exact of_decide_eq_true htg
    subst ht0
    rw [if_pos ⟨rfl, by omega⟩, if_neg (by rw [show sO st = false from decide_eq_false (by omega)]; simp), decide_eq_false (show ¬ st = 2 by omega)] at hR
    unfold msgV msgC at hR
    simp (maxSteps := 1000000) (disch := first | omega | (simp only [sizeAlloc, sizeDrew, sizeSet, sizePut] <;> omega) | fail) only [GS, TT_eq, TTl, Nat.reduceAdd, Nat.reduceMul, Nat.reduceSub, Nat.reduceDiv, Nat.reduceMod, Nat.reducePow, Nat.reduceEqDiff, ↓reduceIte, reduceCtorEq, Int.reduceToNat, Int.reduceAdd, Int.reduceSub, Int.reduceMul, c2, d2, x2, (decide_eq_false (show ¬ (st : Int) = 2 by omega)), (decide_eq_true (show (st : Int) = 3 by omega))]
    refine load9p (st9p hB2) ?_
    exact hR _ (modSet9p hM02 (.inr hgeB))
  · rw [if_pos ⟨rfl, by omega⟩, if_pos (show sO st = true from decide_eq_true (by omega))] at hR
    unfold msgV msgC at hR
    simp (maxSteps := 1000000) (disch := first | omega | (simp only [sizeAlloc, sizeDrew, sizeSet, sizePut] <;> omega) | fail) only [GS, TT_eq, TTl, Nat.reduceAdd, Nat.reduceMul, Nat.reduceSub, Nat.reduceDiv, Nat.reduceMod, Nat.reducePow, Nat.reduceEqDiff, ↓reduceIte, reduceCtorEq, Int.reduceToNat, Int.reduceAdd, Int.reduceSub, Int.reduceMul, c2, d2, x2, (decide_eq_false (show ¬ (st : Int) = 2 by omega)), (decide_eq_false (show ¬ (st : Int) = 3 by omega)), (decide_eq_true (show (st : Int) = 4 by omega))]
    refine load9p (st9p hB2) ?_
    exact hR _ (modSet9p hM02 (.inr hgeB))
  · rw [if_pos ⟨rfl, by omega⟩, if_pos (show sO st = true from decide_eq_true (by omega))] at hR
    unfold msgV msgC at hR
    simp (maxSteps := 1000000) (disch := first | omega | (simp only [sizeAlloc, sizeDrew, sizeSet, sizePut] <;> omega) | fail) only [GS, TT_eq, TTl, Nat.reduceAdd, Nat.reduceMul, Nat.reduceSub, Nat.reduceDiv, Nat.reduceMod, Nat.reducePow, Nat.reduceEqDiff, ↓reduceIte, reduceCtorEq, Int.reduceToNat, Int.reduceAdd, Int.reduceSub, Int.reduceMul, c2, d2, x2, (decide_eq_false (show ¬ (st : Int) = 2 by omega)), (decide_eq_false (show ¬ (st : Int) = 3 by omega)), (decide_eq_false (show ¬ (st : Int) = 4 by omega)), (decide_eq_true (show (st : Int) = 5 by omega))]
    refine load9p (st9p hB2) ?_
    exact hR _ (modSet9p hM02 (.inr hgeB))
set_option maxRecDepth 20000 in
set_option maxHeartbeats 16000000 in
theorem rDue_cps (p : Pt) (ms : Value) (now retry : Int) (hnw : I64 now) (hrt : I64 retry) (w : World) (h : PtIn w p ms) (R : Ending → World → Prop) (hR : ∀ w', Mod [] w w' → R (.returned (.bool (dueB p now retry))) w') :
    Calls Tryz.prog 64 #[ptV p ms, .int .i64 now, .int .i64 retry] w R := by
  unfold dueB at hR
  have hMy := fun w h => rMayPt_cps p ms w h
  have hin := fun w' hM => (h.mod hM : PtIn w' p ms)
  have hst := h.st
  obtain ⟨hse1, hse2⟩ := h.sent
  obtain ⟨hn1, hn2⟩ := hnw
  have os : ms.oneCell' = true := by obtain ⟨a, c, e⟩ := h.rd.slice; rw [e]; rfl
  clear h
  generalize mayPt p = B at *
  obtain ⟨⟨xa, xb, xc⟩, aud, mbs, org, body, st, tag, sent⟩ := p
  unfold ptV ptC at *
  simp only at hMy hR hst hse1 hse2 ⊢
  refine calls_go 4000 okT Tryz.func64 rfl (rs := [.tmp 6]) rfl Tryz.ntmps64 (args := [.agg #[.int .i64 xa, .int .i64 xb, .int .i64 xc, .int .i64 aud, ms, .int .i64 org, .string ⟨body.toArray⟩, .int .u8 st, .string ⟨tag.toArray⟩, .int .i64 sent], .int .i64 now, .int .i64 retry]) ?_
  simp (maxSteps := 1000000) (disch := first | omega | (simp only [sizeAlloc, sizeDrew, sizeSet, sizePut] <;> omega) | fail) only [GS, TT_eq, TTl, Nat.reduceAdd, Nat.reduceMul, Nat.reduceSub, Nat.reduceDiv, Nat.reduceMod, Nat.reducePow, Nat.reduceEqDiff, ↓reduceIte, reduceCtorEq, Int.reduceToNat, Int.reduceAdd, Int.reduceSub, Int.reduceMul, os, cellsL_one os]
  generalize hW : w.alloc (.cells #[.int .i64 xa, .int .i64 xb, .int .i64 xc, .int .i64 aud, ms, .int .i64 org, .string ⟨body.toArray⟩, .int .u8 st, .string ⟨tag.toArray⟩, .int .i64 sent] 72) = w1
  obtain ⟨hA, hM0⟩ := bx10 hW
  clear hW
  generalize hnn : w.heap.size = n at *
  refine ⟨fok70, hMy _ (hin _ hM0) _ fun w2 hM2 => .inl ⟨_, rfl, hold_ops okT (rs := [.tmp 6]) rfl ?_⟩⟩
  have hA2 := hM2.get hA (by simp)
  have hM02 := hM0.trans hM2 (by simp)
  have c2 := fun o => cellOf (o := o) hA2
  cases B
  · simp only [Bool.false_and] at hR
    simp (maxSteps := 1000000) (disch := first | omega | (simp only [sizeAlloc, sizeDrew, sizeSet, sizePut] <;> omega) | fail) only [GS, TT_eq, TTl, Nat.reduceAdd, Nat.reduceMul, Nat.reduceSub, Nat.reduceDiv, Nat.reduceMod, Nat.reducePow, Nat.reduceEqDiff, ↓reduceIte, reduceCtorEq, Int.reduceToNat, Int.reduceAdd, Int.reduceSub, Int.reduceMul]
    exact hR _ hM02
  simp only [Bool.true_and] at hR
  by_cases hs : st = 2 ∨ st = 3
  rotate_left
  · rw [decide_eq_false hs, Bool.false_and] at hR
    simp (maxSteps := 1000000) (disch := first | omega | (simp only [sizeAlloc, sizeDrew, sizeSet, sizePut] <;> omega) | fail) only [GS, TT_eq, TTl, Nat.reduceAdd, Nat.reduceMul, Nat.reduceSub, Nat.reduceDiv, Nat.reduceMod, Nat.reducePow, Nat.reduceEqDiff, ↓reduceIte, reduceCtorEq, Int.reduceToNat, Int.reduceAdd, Int.reduceSub, Int.reduceMul, c2, (decide_eq_false (show ¬ (st : Int) = 2 by omega)), (decide_eq_false (show ¬ (st : Int) = 3 by omega))]
    exact hR _ hM02
  rw [decide_eq_true hs, Bool.true_and] at hR
  have hR' : ∀ D, D = decide (sent < 0 ∨ sent ≤ now ∧ max 0 retry ≤ now - sent) → R (.returned (.bool D)) w2 := fun D h => by rw [h]; exact hR _ hM02
  clear hR
  rcases hs with hs | hs
  · by_cases hneg : sent < 0
    · have hf := hR' true (decide_eq_true (.inl hneg)).symm
      simp (maxSteps := 1000000) (disch := first | omega | (simp only [sizeAlloc, sizeDrew, sizeSet, sizePut] <;> omega) | fail) only [GS, TT_eq, TTl, Nat.reduceAdd, Nat.reduceMul, Nat.reduceSub, Nat.reduceDiv, Nat.reduceMod, Nat.reducePow, Nat.reduceEqDiff, ↓reduceIte, reduceCtorEq, Int.reduceToNat, Int.reduceAdd, Int.reduceSub, Int.reduceMul, c2, (decide_eq_true (show (st : Int) = 2 by omega)), hneg]
      exact hf
    by_cases hge : sent ≤ now
    rotate_left
    · have hf := hR' false (decide_eq_false (fun h => by rcases h with h | h; exact hneg h; exact hge h.1)).symm
      simp (maxSteps := 1000000) (disch := first | omega | (simp only [sizeAlloc, sizeDrew, sizeSet, sizePut] <;> omega) | fail) only [GS, TT_eq, TTl, Nat.reduceAdd, Nat.reduceMul, Nat.reduceSub, Nat.reduceDiv, Nat.reduceMod, Nat.reducePow, Nat.reduceEqDiff, ↓reduceIte, reduceCtorEq, Int.reduceToNat, Int.reduceAdd, Int.reduceSub, Int.reduceMul, c2, (decide_eq_true (show (st : Int) = 2 by omega)), hneg, hge]
      exact hf
    by_cases hr0 : max 0 retry ≤ now - sent
    · have hf := hR' true (decide_eq_true (.inr ⟨hge, hr0⟩)).symm
      have hr1 : max retry 0 ≤ now - sent := by omega
      simp (maxSteps := 1000000) (disch := first | omega | (simp only [sizeAlloc, sizeDrew, sizeSet, sizePut] <;> omega) | fail) only [GS, TT_eq, TTl, Nat.reduceAdd, Nat.reduceMul, Nat.reduceSub, Nat.reduceDiv, Nat.reduceMod, Nat.reducePow, Nat.reduceEqDiff, ↓reduceIte, reduceCtorEq, Int.reduceToNat, Int.reduceAdd, Int.reduceSub, Int.reduceMul, c2, (decide_eq_true (show (st : Int) = 2 by omega)), hneg, hge, hr0, hr1]
      exact hf
    · have hf := hR' false (decide_eq_false (fun h => by rcases h with h | h; exact hneg h; exact hr0 h.2)).symm
      have hr1 : ¬ max retry 0 ≤ now - sent := by omega
      simp (maxSteps := 1000000) (disch := first | omega | (simp only [sizeAlloc, sizeDrew, sizeSet, sizePut] <;> omega) | fail) only [GS, TT_eq, TTl, Nat.reduceAdd, Nat.reduceMul, Nat.reduceSub, Nat.reduceDiv, Nat.reduceMod, Nat.reducePow, Nat.reduceEqDiff, ↓reduceIte, reduceCtorEq, Int.reduceToNat, Int.reduceAdd, Int.reduceSub, Int.reduceMul, c2, (decide_eq_true (show (st : Int) = 2 by omega)), hneg, hge, hr0, hr1]
      exact hf
  · by_cases hneg : sent < 0
    · have hf := hR' true (decide_eq_true (.inl hneg)).symm
      simp (maxSteps := 1000000) (disch := first | omega | (simp only [sizeAlloc, sizeDrew, sizeSet, sizePut] <;> omega) | fail) only [GS, TT_eq, TTl, Nat.reduceAdd, Nat.reduceMul, Nat.reduceSub, Nat.reduceDiv, Nat.reduceMod, Nat.reducePow, Nat.reduceEqDiff, ↓reduceIte, reduceCtorEq, Int.reduceToNat, Int.reduceAdd, Int.reduceSub, Int.reduceMul, c2, (decide_eq_false (show ¬ (st : Int) = 2 by omega)), (decide_eq_true (show (st : Int) = 3 by omega)), hneg]
      exact hf
    by_cases hge : sent ≤ now
    rotate_left
    · have hf := hR' false (decide_eq_false (fun h => by rcases h with h | h; exact hneg h; exact hge h.1)).symm
      simp (maxSteps := 1000000) (disch := first | omega | (simp only [sizeAlloc, sizeDrew, sizeSet, sizePut] <;> omega) | fail) only [GS, TT_eq, TTl, Nat.reduceAdd, Nat.reduceMul, Nat.reduceSub, Nat.reduceDiv, Nat.reduceMod, Nat.reducePow, Nat.reduceEqDiff, ↓reduceIte, reduceCtorEq, Int.reduceToNat, Int.reduceAdd, Int.reduceSub, Int.reduceMul, c2, (decide_eq_false (show ¬ (st : Int) = 2 by omega)), (decide_eq_true (show (st : Int) = 3 by omega)), hneg, hge]
      exact hf
    by_cases hr0 : max 0 retry ≤ now - sent
    · have hf := hR' true (decide_eq_true (.inr ⟨hge, hr0⟩)).symm
      have hr1 : max retry 0 ≤ now - sent := by omega
      simp (maxSteps := 1000000) (disch := first | omega | (simp only [sizeAlloc, sizeDrew, sizeSet, sizePut] <;> omega) | fail) only [GS, TT_eq, TTl, Nat.reduceAdd, Nat.reduceMul, Nat.reduceSub, Nat.reduceDiv, Nat.reduceMod, Nat.reducePow, Nat.reduceEqDiff, ↓reduceIte, reduceCtorEq, Int.reduceToNat, Int.reduceAdd, Int.reduceSub, Int.reduceMul, c2, (decide_eq_false (show ¬ (st : Int) = 2 by omega)), (decide_eq_true (show (st : Int) = 3 by omega)), hneg, hge, hr0, hr1]
      exact hf
    · have hf := hR' false (decide_eq_false (fun h => by rcases h with h | h; exact hneg h; exact hr0 h.2)).symm
      have hr1 : ¬ max retry 0 ≤ now - sent := by omega
      simp (maxSteps := 1000000) (disch := first | omega | (simp only [sizeAlloc, sizeDrew, sizeSet, sizePut] <;> omega) | fail) only [GS, TT_eq, TTl, Nat.reduceAdd, Nat.reduceMul, Nat.reduceSub, Nat.reduceDiv, Nat.reduceMod, Nat.reducePow, Nat.reduceEqDiff, ↓reduceIte, reduceCtorEq, Int.reduceToNat, Int.reduceAdd, Int.reduceSub, Int.reduceMul, c2, (decide_eq_false (show ¬ (st : Int) = 2 by omega)), (decide_eq_true (show (st : Int) = 3 by omega)), hneg, hge, hr0, hr1]
      exact hf
end Go.Proofs.YtpcilobbohokcaaGreat
