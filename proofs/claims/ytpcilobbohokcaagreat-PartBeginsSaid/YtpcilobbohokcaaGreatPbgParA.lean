/-
  part: the reference's Own, ballot, May and Same (walks).
-/
import Derived.Test.YtpcilobbohokcaaGreatPbgPar9
set_option linter.unusedSimpArgs false
set_option linter.unusedVariables false
set_option maxRecDepth 20000
namespace Go.Proofs.YtpcilobbohokcaaGreat
open Go Go.Wk Go.RowKit
attribute [local irreducible] go Hold
open Go.Lib
theorem mayPt_alt (p : Pt) : mayPt p = (balB p.tx p.aud p.mbs p.org && (decide (checkS p.body = 0) && (decide (-1 ≤ p.sent) && (decide (1 ≤ p.st ∧ p.st ≤ 5) && tagB p.st p.tag)))) := by
  unfold mayPt
  cases balB p.tx p.aud p.mbs p.org <;> cases decide (checkS p.body = 0) <;> cases decide (-1 ≤ p.sent) <;> cases decide (1 ≤ p.st ∧ p.st ≤ 5) <;> cases tagB p.st p.tag <;> rfl
set_option maxRecDepth 20000 in
set_option maxHeartbeats 8000000 in
theorem rOwn_cps (p : Pt) (ms : Value) (w : World) (h : PtIn w p ms) (R : Ending → World → Prop) (hR : ∀ cv w', w'.ownsRow w.heap.size 126 2 cv p.mbs.length (p.mbs.flatMap mbC) → Mod [] w w' → R (.returned (ptV p cv)) w') :
    Calls Tryz.prog 53 #[ptV p ms] w R := by
  have hl := h.len
  have hr := h.rd
  have os : ms.oneCell' = true := by obtain ⟨a, c, e⟩ := h.rd.slice; rw [e]; rfl
  clear h
  obtain ⟨⟨xa, xb, xc⟩, aud, mbs, org, body, st, tag, sent⟩ := p
  unfold ptV ptC at *
  simp only at hl hr hR ⊢
  refine calls_go 4000 okT Tryz.func53 rfl (rs := [.cell 2 72]) rfl Tryz.ntmps53 (args := [.agg #[.int .i64 xa, .int .i64 xb, .int .i64 xc, .int .i64 aud, ms, .int .i64 org, .string ⟨body.toArray⟩, .int .u8 st, .string ⟨tag.toArray⟩, .int .i64 sent]]) ?_
  simp (maxSteps := 1000000) (disch := first | omega | (simp only [sizeAlloc, sizeDrew, sizeSet, sizePut] <;> omega) | fail) only [GS, TT_eq, TTl, Nat.reduceAdd, Nat.reduceMul, Nat.reduceSub, Nat.reduceDiv, Nat.reduceMod, Nat.reducePow, Nat.reduceEqDiff, ↓reduceIte, reduceCtorEq, Int.reduceToNat, Int.reduceAdd, Int.reduceSub, Int.reduceMul, os, cellsL_one os]
  generalize hW : (w.alloc (.cells #[.int .i64 xa, .int .i64 xb, .int .i64 xc, .int .i64 aud, ms, .int .i64 org, .string ⟨body.toArray⟩, .int .u8 st, .string ⟨tag.toArray⟩, .int .i64 sent] 72)).alloc (.cells #[.int .i64 0, .int .i64 0, .int .i64 0, .int .i64 0, .slice none 0 0, .int .i64 0, .string ⟨#[]⟩, .int .u8 0, .string ⟨#[]⟩, .int .i64 0] 72) = w1
  obtain ⟨hA, hB, hM0⟩ := two10 hW
  clear hW
  generalize hn : w.heap.size = n at *
  have hgeB : w.heap.size ≤ n + 1 := by omega
  have hgeA : w.heap.size ≤ n := by omega
  have hz : n + 1 < w1.heap.size := (Array.getElem?_eq_some_iff.1 hB).1
  refine hold_appendR okT rfl rfl rfl rfl (by decide) w1.heap.size (World.ownsRow_nil _ _ _ _) rfl rfl (hr.mod hM0 (by simp)) (by intro u hu; obtain ⟨z, _, hz⟩ := List.mem_flatMap.1 hu; simp only [mbC, List.mem_cons, List.not_mem_nil, or_false] at hz; rcases hz with rfl | rfl <;> rfl) (by simp only; omega) (by unfold maxLen; omega) (Nat.le_refl _) fun cv w3 hown hM3 => hold_stop (s' := some 2) (hold_ops okT (rs := [.cell 2 72]) rfl ?_)
  rw [Nat.zero_add, List.nil_append] at hown
  have hM3 : Mod [] w1 w3 := hM3
  have hA3 := hM3.get hA (by simp)
  have hB3 := hM3.get hB (by simp)
  have hM03 := hM0.trans hM3 (by simp)
  have oc := ownsRow_one hown
  have c3 := fun o => cellOf (o := o) hA3
  have x3 := fun o => frozenOf (o := o) hA3
  simp (maxSteps := 1000000) (disch := first | omega | (simp only [sizeAlloc, sizeDrew, sizeSet, sizePut] <;> omega) | fail) only [GS, TT_eq, TTl, Nat.reduceAdd, Nat.reduceMul, Nat.reduceSub, Nat.reduceDiv, Nat.reduceMod, Nat.reducePow, Nat.reduceEqDiff, ↓reduceIte, reduceCtorEq, Int.reduceToNat, Int.reduceAdd, Int.reduceSub, Int.reduceMul, c3, x3, oc, cellsL_one oc]
  have hA4 : (w3.setCell ⟨n, 4, none⟩ cv).heap[n]? = some (.cells #[.int .i64 xa, .int .i64 xb, .int .i64 xc, .int .i64 aud, cv, .int .i64 org, .string ⟨body.toArray⟩, .int .u8 st, .string ⟨tag.toArray⟩, .int .i64 sent] 72 (0, 0)) := by rw [heapSet hA3]; rfl
  have hB4 := heapSetNe (b := n) (j := 4) (u := cv) hB3 (by omega)
  have hM4 := hM03.set (p := ⟨n, 4, none⟩) (.inr hgeA) cv
  have hown4 := ownsRow_mod hown ((Mod.refl [n] w3).set (p := ⟨n, 4, none⟩) (.inl (by simp)) cv) (by simp; omega)
  revert hA4 hB4 hM4 hown4
  generalize w3.setCell ⟨n, 4, none⟩ cv = w4
  intro hA4 hB4 hM4 hown4
  refine hold_stop (s' := none) ?_
  refine hold_code okT (rs := [.cell 2 72]) rfl ?_
  have cA := fun o => cellOf (o := o) hA4
  have cB := fun o => cellOf (o := o) hB4
  have xB := fun o => frozenOf (o := o) hB4
  simp (maxSteps := 1000000) (disch := first | omega | (simp only [sizeAlloc, sizeDrew, sizeSet, sizePut] <;> omega) | fail) only [GS, TT_eq, TTl, Nat.reduceAdd, Nat.reduceMul, Nat.reduceSub, Nat.reduceDiv, Nat.reduceMod, Nat.reducePow, Nat.reduceEqDiff, ↓reduceIte, reduceCtorEq, Int.reduceToNat, Int.reduceAdd, Int.reduceSub, Int.reduceMul, cA, cB, xB, oc, cellsL_one oc]
  refine load10 (st10 hB4) ?_
  refine hR cv _ ?_ (modSet10 hM4 (.inr hgeB))
  exact ownsRow_base (ownsRow_mod (S := [n + 1]) hown4 (modSet10 (F := [n + 1]) (p := n + 1) (x0 := .int .i64 xa) (x1 := .int .i64 xb) (x2 := .int .i64 xc) (x3 := .int .i64 aud) (x4 := cv) (x5 := .int .i64 org) (x6 := .string ⟨body.toArray⟩) (x7 := .int .u8 st) (x8 := .string ⟨tag.toArray⟩) (x9 := .int .i64 sent) (Mod.refl [n + 1] w4) (.inl (by simp))) (by simp; omega)) (by omega)
set_option maxRecDepth 20000 in
set_option maxHeartbeats 8000000 in
theorem rBal_cps (p : Pt) (ms : Value) (os : ms.oneCell' = true) (w : World) (R : Ending → World → Prop) (hR : ∀ w', Mod [] w w' → R (.returned (balV p.tx p.aud ms p.org)) w') :
    Calls Tryz.prog 123 #[ptV p ms] w R := by
  obtain ⟨⟨xa, xb, xc⟩, aud, mbs, org, body, st, tag, sent⟩ := p
  unfold balV at hR
  unfold ptV ptC at *
  simp only at hR ⊢
  refine calls_go 4000 okT Tryz.func123 rfl (rs := [.cell 2 56]) rfl Tryz.ntmps123 (args := [.agg #[.int .i64 xa, .int .i64 xb, .int .i64 xc, .int .i64 aud, ms, .int .i64 org, .string ⟨body.toArray⟩, .int .u8 st, .string ⟨tag.toArray⟩, .int .i64 sent]]) ?_
  simp (maxSteps := 1000000) (disch := first | omega | (simp only [sizeAlloc, sizeDrew, sizeSet, sizePut] <;> omega) | fail) only [GS, TT_eq, TTl, Nat.reduceAdd, Nat.reduceMul, Nat.reduceSub, Nat.reduceDiv, Nat.reduceMod, Nat.reducePow, Nat.reduceEqDiff, ↓reduceIte, reduceCtorEq, Int.reduceToNat, Int.reduceAdd, Int.reduceSub, Int.reduceMul, os, cellsL_one os]
  generalize hW : ((((((((w.alloc (.cells #[.int .i64 xa, .int .i64 xb, .int .i64 xc, .int .i64 aud, ms, .int .i64 org, .string ⟨body.toArray⟩, .int .u8 st, .string ⟨tag.toArray⟩, .int .i64 sent] 72)).alloc (.cells #[.int .i64 0, .int .i64 0, .int .i64 0, .int .i64 0, .slice none 0 0, .int .i64 0] 56)).setCell ⟨w.heap.size + 1, 0, none⟩ (.int .i64 xa)).setCell ⟨w.heap.size + 1, 1, none⟩ (.int .i64 xb)).setCell ⟨w.heap.size + 1, 2, none⟩ (.int .i64 xc)).setCell ⟨w.heap.size + 1, 3, none⟩ (.int .i64 aud)).setCell ⟨w.heap.size + 1, 4, none⟩ (ms)).setCell ⟨w.heap.size + 1, 5, none⟩ (.int .i64 org)) = w1
  obtain ⟨hB, hM0⟩ : w1.heap[w.heap.size + 1]? = some (.cells #[.int .i64 xa, .int .i64 xb, .int .i64 xc, .int .i64 aud, ms, .int .i64 org] 56 (0, 0)) ∧ Mod [] w w1 := by
    subst hW
    have h1 := heapNew (w := w.alloc (.cells #[.int .i64 xa, .int .i64 xb, .int .i64 xc, .int .i64 aud, ms, .int .i64 org, .string ⟨body.toArray⟩, .int .u8 st, .string ⟨tag.toArray⟩, .int .i64 sent] 72)) (o := (.cells #[.int .i64 0, .int .i64 0, .int .i64 0, .int .i64 0, .slice none 0 0, .int .i64 0] 56))
    rw [sizeAlloc] at h1
    exact ⟨st6z h1, modSet6z (((Mod.refl [] w).alloc _).alloc _) (.inr (by omega))⟩
  clear hW
  refine load6y hB ?_
  exact hR _ hM0
set_option maxRecDepth 20000 in
set_option maxHeartbeats 16000000 in
theorem rMayPt_cps (p : Pt) (ms : Value) (w : World) (h : PtIn w p ms) (R : Ending → World → Prop) (hR : ∀ w', Mod [] w w' → R (.returned (.bool (mayPt p))) w') :
    Calls Tryz.prog 70 #[ptV p ms] w R := by
  rw [mayPt_alt] at hR
  have os : ms.oneCell' = true := by obtain ⟨a, c, e⟩ := h.rd.slice; rw [e]; rfl
  have hBl := rBal_cps p ms os
  have hBm := fun w h1 => balMay_cps p.tx p.aud ms p.mbs p.org w h.len h.dig h1
  have hTB := fun w => rMay_cps p.body h.body w
  have hTT := fun w => rMay_cps p.tag h.tag w
  have hr := h.rd
  clear h
  obtain ⟨⟨xa, xb, xc⟩, aud, mbs, org, body, st, tag, sent⟩ := p
  unfold ptV ptC at *
  unfold balV at *
  simp only at hR hBl hBm hTB hTT hr ⊢
  generalize balB (xa, xb, xc) aud mbs org = B at hR hBm
  refine calls_go 4000 okT Tryz.func70 rfl (rs := [.tmp 2]) rfl Tryz.ntmps70 (args := [.agg #[.int .i64 xa, .int .i64 xb, .int .i64 xc, .int .i64 aud, ms, .int .i64 org, .string ⟨body.toArray⟩, .int .u8 st, .string ⟨tag.toArray⟩, .int .i64 sent]]) ?_
  simp (maxSteps := 1000000) (disch := first | omega | (simp only [sizeAlloc, sizeDrew, sizeSet, sizePut] <;> omega) | fail) only [GS, TT_eq, TTl, Nat.reduceAdd, Nat.reduceMul, Nat.reduceSub, Nat.reduceDiv, Nat.reduceMod, Nat.reducePow, Nat.reduceEqDiff, ↓reduceIte, reduceCtorEq, Int.reduceToNat, Int.reduceAdd, Int.reduceSub, Int.reduceMul, os, cellsL_one os]
  generalize hW : w.alloc (.cells #[.int .i64 xa, .int .i64 xb, .int .i64 xc, .int .i64 aud, ms, .int .i64 org, .string ⟨body.toArray⟩, .int .u8 st, .string ⟨tag.toArray⟩, .int .i64 sent] 72) = w1
  obtain ⟨hA, hM0⟩ := bx10 hW
  clear hW
  generalize hn : w.heap.size = n at *
  refine ⟨fok123, hBl _ _ fun w2 hM2 => .inl ⟨_, rfl, hold_ops okT (rs := [.tmp 2]) rfl ?_⟩⟩
  have hM02 := hM0.trans hM2 (by simp)
  simp (maxSteps := 1000000) (disch := first | omega | (simp only [sizeAlloc, sizeDrew, sizeSet, sizePut] <;> omega) | fail) only [GS, TT_eq, TTl, Nat.reduceAdd, Nat.reduceMul, Nat.reduceSub, Nat.reduceDiv, Nat.reduceMod, Nat.reducePow, Nat.reduceEqDiff, ↓reduceIte, reduceCtorEq, Int.reduceToNat, Int.reduceAdd, Int.reduceSub, Int.reduceMul]
  refine ⟨fok124, hBm _ (hr.mod hM02 (by simp)) _ fun w3 hM3 => .inl ⟨_, rfl, hold_ops okT (rs := [.tmp 2]) rfl ?_⟩⟩
  have hA3 := hM3.get (hM2.get hA (by simp)) (by simp)
  have hM03 := hM02.trans hM3 (by simp)
  have c3 := fun o => cellOf (o := o) hA3
  cases B
  · simp only [Bool.false_and] at hR
    simp (maxSteps := 1000000) (disch := first | omega | (simp only [sizeAlloc, sizeDrew, sizeSet, sizePut] <;> omega) | fail) only [GS, TT_eq, TTl, Nat.reduceAdd, Nat.reduceMul, Nat.reduceSub, Nat.reduceDiv, Nat.reduceMod, Nat.reducePow, Nat.reduceEqDiff, ↓reduceIte, reduceCtorEq, Int.reduceToNat, Int.reduceAdd, Int.reduceSub, Int.reduceMul]
    exact hR _ hM03
  simp only [Bool.true_and] at hR
  simp (maxSteps := 1000000) (disch := first | omega | (simp only [sizeAlloc, sizeDrew, sizeSet, sizePut] <;> omega) | fail) only [GS, TT_eq, TTl, Nat.reduceAdd, Nat.reduceMul, Nat.reduceSub, Nat.reduceDiv, Nat.reduceMod, Nat.reducePow, Nat.reduceEqDiff, ↓reduceIte, reduceCtorEq, Int.reduceToNat, Int.reduceAdd, Int.reduceSub, Int.reduceMul, c3]
  refine ⟨fok93, hTB _ _ fun w4 hM4 => .inl ⟨_, rfl, hold_ops okT (rs := [.tmp 2]) rfl ?_⟩⟩
  have hA4 := hM4.get hA3 (by simp)
  have hM04 := hM03.trans hM4 (by simp)
  have c4 := fun o => cellOf (o := o) hA4
  generalize decide (checkS body = 0) = D at hR ⊢
  cases D
  · simp only [Bool.false_and] at hR
    simp (maxSteps := 1000000) (disch := first | omega | (simp only [sizeAlloc, sizeDrew, sizeSet, sizePut] <;> omega) | fail) only [GS, TT_eq, TTl, Nat.reduceAdd, Nat.reduceMul, Nat.reduceSub, Nat.reduceDiv, Nat.reduceMod, Nat.reducePow, Nat.reduceEqDiff, ↓reduceIte, reduceCtorEq, Int.reduceToNat, Int.reduceAdd, Int.reduceSub, Int.reduceMul]
    exact hR _ hM04
  simp only [Bool.true_and] at hR
  by_cases hse : sent < -1
  · rw [decide_eq_false (show ¬ -1 ≤ sent by omega), Bool.false_and] at hR
    simp (maxSteps := 1000000) (disch := first | omega | (simp only [sizeAlloc, sizeDrew, sizeSet, sizePut] <;> omega) | fail) only [GS, TT_eq, TTl, Nat.reduceAdd, Nat.reduceMul, Nat.reduceSub, Nat.reduceDiv, Nat.reduceMod, Nat.reducePow, Nat.reduceEqDiff, ↓reduceIte, reduceCtorEq, Int.reduceToNat, Int.reduceAdd, Int.reduceSub, Int.reduceMul, c4, hse]
    exact hR _ hM04
  rw [decide_eq_true (show -1 ≤ sent by omega), Bool.true_and] at hR
  by_cases hs1 : (st : Int) < 1
  · rw [decide_eq_false (show ¬ (1 ≤ st ∧ st ≤ 5) by omega), Bool.false_and] at hR
    simp (maxSteps := 1000000) (disch := first | omega | (simp only [sizeAlloc, sizeDrew, sizeSet, sizePut] <;> omega) | fail) only [GS, TT_eq, TTl, Nat.reduceAdd, Nat.reduceMul, Nat.reduceSub, Nat.reduceDiv, Nat.reduceMod, Nat.reducePow, Nat.reduceEqDiff, ↓reduceIte, reduceCtorEq, Int.reduceToNat, Int.reduceAdd, Int.reduceSub, Int.reduceMul, c4, hse, hs1]
    exact hR _ hM04
  by_cases hs5 : (5 : Int) < (st : Int)
  · rw [decide_eq_false (show ¬ (1 ≤ st ∧ st ≤ 5) by omega), Bool.false_and] at hR
    simp (maxSteps := 1000000) (disch := first | omega | (simp only [sizeAlloc, sizeDrew, sizeSet, sizePut] <;> omega) | fail) only [GS, TT_eq, TTl, Nat.reduceAdd, Nat.reduceMul, Nat.reduceSub, Nat.reduceDiv, Nat.reduceMod, Nat.reducePow, Nat.reduceEqDiff, ↓reduceIte, reduceCtorEq, Int.reduceToNat, Int.reduceAdd, Int.reduceSub, Int.reduceMul, c4, hse, hs1, hs5]
    exact hR _ hM04
  rw [decide_eq_true (show 1 ≤ st ∧ st ≤ 5 by omega), Bool.true_and] at hR
  simp (maxSteps := 1000000) (disch := first | omega | (simp only [sizeAlloc, sizeDrew, sizeSet, sizePut] <;> omega) | fail) only [GS, TT_eq, TTl, Nat.reduceAdd, Nat.reduceMul, Nat.reduceSub, Nat.reduceDiv, Nat.reduceMod, Nat.reducePow, Nat.reduceEqDiff, ↓reduceIte, reduceCtorEq, Int.reduceToNat, Int.reduceAdd, Int.reduceSub, Int.reduceMul, c4, hse, hs1, hs5]
  refine ⟨fok93, hTT _ _ fun w5 hM5 => .inl ⟨_, rfl, hold_ops okT (rs := [.tmp 2]) rfl ?_⟩⟩
  have hA5 := hM5.get hA4 (by simp)
  have hM05 := hM04.trans hM5 (by simp)
  have c5 := fun o => cellOf (o := o) hA5
  unfold tagB at hR
  by_cases h2 : st = 2
  · rw [if_pos (.inl h2)] at hR
    generalize decide (checkS tag = 0) = D at hR ⊢
    simp (maxSteps := 1000000) (disch := first | omega | (simp only [sizeAlloc, sizeDrew, sizeSet, sizePut] <;> omega) | fail) only [GS, TT_eq, TTl, Nat.reduceAdd, Nat.reduceMul, Nat.reduceSub, Nat.reduceDiv, Nat.reduceMod, Nat.reducePow, Nat.reduceEqDiff, ↓reduceIte, reduceCtorEq, Int.reduceToNat, Int.reduceAdd, Int.reduceSub, Int.reduceMul, c5, (decide_eq_true (show (st : Int) = 2 by omega))]
    exact hR _ hM05
  by_cases h4 : st = 4
  · rw [if_pos (.inr h4)] at hR
    generalize decide (checkS tag = 0) = D at hR ⊢
    simp (maxSteps := 1000000) (disch := first | omega | (simp only [sizeAlloc, sizeDrew, sizeSet, sizePut] <;> omega) | fail) only [GS, TT_eq, TTl, Nat.reduceAdd, Nat.reduceMul, Nat.reduceSub, Nat.reduceDiv, Nat.reduceMod, Nat.reducePow, Nat.reduceEqDiff, ↓reduceIte, reduceCtorEq, Int.reduceToNat, Int.reduceAdd, Int.reduceSub, Int.reduceMul, c5, (decide_eq_false (show ¬ (st : Int) = 2 by omega)), (decide_eq_true (show (st : Int) = 4 by omega))]
    exact hR _ hM05
  rw [if_neg (by omega)] at hR
  by_cases h5 : st = 5
  · rw [if_pos h5] at hR
    by_cases hct : checkS tag = 0
    · rw [decide_eq_true (.inl hct)] at hR
      rw [decide_eq_true hct]
      simp (maxSteps := 1000000) (disch := first | omega | (simp only [sizeAlloc, sizeDrew, sizeSet, sizePut] <;> omega) | fail) only [GS, TT_eq, TTl, Nat.reduceAdd, Nat.reduceMul, Nat.reduceSub, Nat.reduceDiv, Nat.reduceMod, Nat.reducePow, Nat.reduceEqDiff, ↓reduceIte, reduceCtorEq, Int.reduceToNat, Int.reduceAdd, Int.reduceSub, Int.reduceMul, c5, (decide_eq_false (show ¬ (st : Int) = 2 by omega)), (decide_eq_false (show ¬ (st : Int) = 4 by omega)), (decide_eq_true (show (st : Int) = 5 by omega))]
      exact hR _ hM05
    · rw [show decide (checkS tag = 0 ∨ tag = []) = decide (tag = []) from decide_eq_decide.2 ⟨fun h => h.resolve_left hct, .inr⟩] at hR
      rw [decide_eq_false hct]
      simp (maxSteps := 1000000) (disch := first | omega | (simp only [sizeAlloc, sizeDrew, sizeSet, sizePut] <;> omega) | fail) only [GS, TT_eq, TTl, Nat.reduceAdd, Nat.reduceMul, Nat.reduceSub, Nat.reduceDiv, Nat.reduceMod, Nat.reducePow, Nat.reduceEqDiff, ↓reduceIte, reduceCtorEq, Int.reduceToNat, Int.reduceAdd, Int.reduceSub, Int.reduceMul, c5, (decide_eq_false (show ¬ (st : Int) = 2 by omega)), (decide_eq_false (show ¬ (st : Int) = 4 by omega)), (decide_eq_true (show (st : Int) = 5 by omega))]
      exact hR _ hM05
  rw [if_neg h5] at hR
  simp (maxSteps := 1000000) (disch := first | omega | (simp only [sizeAlloc, sizeDrew, sizeSet, sizePut] <;> omega) | fail) only [GS, TT_eq, TTl, Nat.reduceAdd, Nat.reduceMul, Nat.reduceSub, Nat.reduceDiv, Nat.reduceMod, Nat.reducePow, Nat.reduceEqDiff, ↓reduceIte, reduceCtorEq, Int.reduceToNat, Int.reduceAdd, Int.reduceSub, Int.reduceMul, c5, (decide_eq_false (show ¬ (st : Int) = 2 by omega)), (decide_eq_false (show ¬ (st : Int) = 4 by omega)), (decide_eq_false (show ¬ (st : Int) = 5 by omega))]
  exact hR _ hM05
set_option maxRecDepth 20000 in
set_option maxHeartbeats 16000000 in
theorem rSame23_cps (p : Pt) (ms ns : Value) (w : World) (hl : p.mbs.length ≤ 1000000) (ha : Rd w 2 ms p.mbs.length (p.mbs.flatMap mbC)) (hb : Rd w 2 ns p.mbs.length (p.mbs.flatMap mbC)) (R : Ending → World → Prop) (hR : ∀ w', Mod [] w w' → R (.returned (.bool true)) w') :
    Calls Tryz.prog 62 #[ptV p ms, ptV p ns] w R := by
  have os1 : ms.oneCell' = true := by obtain ⟨a, c, e⟩ := ha.slice; rw [e]; rfl
  have os2 : ns.oneCell' = true := by obtain ⟨a, c, e⟩ := hb.slice; rw [e]; rfl
  obtain ⟨⟨xa, xb, xc⟩, aud, mbs, org, body, st, tag, sent⟩ := p
  unfold ptV ptC
  simp only at hl ha hb ⊢
  refine calls_go 4000 okT Tryz.func62 rfl (rs := [.tmp 4]) rfl Tryz.ntmps62 (args := [.agg #[.int .i64 xa, .int .i64 xb, .int .i64 xc, .int .i64 aud, ms, .int .i64 org, .string ⟨body.toArray⟩, .int .u8 st, .string ⟨tag.toArray⟩, .int .i64 sent], .agg #[.int .i64 xa, .int .i64 xb, .int .i64 xc, .int .i64 aud, ns, .int .i64 org, .string ⟨body.toArray⟩, .int .u8 st, .string ⟨tag.toArray⟩, .int .i64 sent]]) ?_
  simp (maxSteps := 1000000) (disch := first | omega | (simp only [sizeAlloc, sizeDrew, sizeSet, sizePut] <;> omega) | fail) only [GS, TT_eq, TTl, Nat.reduceAdd, Nat.reduceMul, Nat.reduceSub, Nat.reduceDiv, Nat.reduceMod, Nat.reducePow, Nat.reduceEqDiff, ↓reduceIte, reduceCtorEq, Int.reduceToNat, Int.reduceAdd, Int.reduceSub, Int.reduceMul, eq_self, os1, os2, cellsL_one os1, cellsL_one os2]
  generalize hW : (w.alloc (.cells #[.int .i64 xa, .int .i64 xb, .int .i64 xc, .int .i64 aud, ms, .int .i64 org, .string ⟨body.toArray⟩, .int .u8 st, .string ⟨tag.toArray⟩, .int .i64 sent] 72)).alloc (.cells #[.int .i64 xa, .int .i64 xb, .int .i64 xc, .int .i64 aud, ns, .int .i64 org, .string ⟨body.toArray⟩, .int .u8 st, .string ⟨tag.toArray⟩, .int .i64 sent] 72) = w1
  have hM0 : Mod [] w w1 := by subst hW; exact ((Mod.refl [] w).alloc _).alloc _
  clear hW
  refine ⟨fok50, SameM_cps ms ns mbs mbs _ _ hl (ha.mod hM0 (by simp)) (hb.mod hM0 (by simp)) fun w2 hM2 => .inl ⟨_, rfl, hold_ops okT (rs := [.tmp 4]) rfl ?_⟩⟩
  rw [decide_eq_true (rfl : mbs = mbs)]
  simp (maxSteps := 1000000) (disch := first | omega | (simp only [sizeAlloc, sizeDrew, sizeSet, sizePut] <;> omega) | fail) only [GS, TT_eq, TTl, Nat.reduceAdd, Nat.reduceMul, Nat.reduceSub, Nat.reduceDiv, Nat.reduceMod, Nat.reducePow, Nat.reduceEqDiff, ↓reduceIte, reduceCtorEq, Int.reduceToNat, Int.reduceAdd, Int.reduceSub, Int.reduceMul]
  exact hR _ (hM0.trans hM2 (by simp))
end Go.Proofs.YtpcilobbohokcaaGreat
