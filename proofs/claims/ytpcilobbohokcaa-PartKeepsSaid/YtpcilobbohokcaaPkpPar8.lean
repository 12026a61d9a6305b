/-
  part: Due, What (walks).
-/
import Derived.Test.YtpcilobbohokcaaPkpPar7
set_option linter.unusedSimpArgs false
set_option linter.unusedVariables false
namespace Go.Proofs.Ytpcilobbohokcaa
open Go Go.Wk Go.RowKit
attribute [local irreducible] go Hold
open Go.Lib
theorem load9p {w : World} {p : Nat} {K : Value → World → Prop} {x0 x1 x2 x3 x4 x5 x6 x7 x8 : Value} (hh : w.heap[p]? = some (.cells #[x0, x1, x2, x3, x4, x5, x6, x7, x8] 42 (0, 0))) (hK : K (.agg #[x0, x1, x2, x3, x4, x5, x6, x7, x8]) w) : loadW TT 42 (.pointer (some ⟨p, 0, none⟩)) w K := by
  have c := fun o => cellOf (o := o) hh
  exact ⟨_, c 0, _, c 1, _, c 2, _, c 3, _, c 4, _, c 5, _, c 6, _, c 7, _, c 8, hK⟩
theorem st9p {w : World} {p t : Nat} {fr : Nat × Nat} {a0 a1 a2 a3 a4 a5 a6 a7 a8 x0 x1 x2 x3 x4 x5 x6 x7 x8 : Value} (hz : w.heap[p]? = some (.cells #[a0, a1, a2, a3, a4, a5, a6, a7, a8] t fr)) : (((((((((w.setCell ⟨p, 0, none⟩ (x0)).setCell ⟨p, 1, none⟩ (x1)).setCell ⟨p, 2, none⟩ (x2)).setCell ⟨p, 3, none⟩ (x3)).setCell ⟨p, 4, none⟩ (x4)).setCell ⟨p, 5, none⟩ (x5)).setCell ⟨p, 6, none⟩ (x6)).setCell ⟨p, 7, none⟩ (x7)).setCell ⟨p, 8, none⟩ (x8)).heap[p]? = some (.cells #[x0, x1, x2, x3, x4, x5, x6, x7, x8] t fr) := by
  have h0 : (w.setCell ⟨p, 0, none⟩ x0).heap[p]? = some (.cells #[x0, a1, a2, a3, a4, a5, a6, a7, a8] t fr) := by rw [heapSet hz]; rfl
  revert h0
  generalize w.setCell ⟨p, 0, none⟩ x0 = w0
  intro h0
  have h1 : (w0.setCell ⟨p, 1, none⟩ x1).heap[p]? = some (.cells #[x0, x1, a2, a3, a4, a5, a6, a7, a8] t fr) := by rw [heapSet h0]; rfl
  revert h1
  generalize w0.setCell ⟨p, 1, none⟩ x1 = w1
  intro h1
  have h2 : (w1.setCell ⟨p, 2, none⟩ x2).heap[p]? = some (.cells #[x0, x1, x2, a3, a4, a5, a6, a7, a8] t fr) := by rw [heapSet h1]; rfl
  revert h2
  generalize w1.setCell ⟨p, 2, none⟩ x2 = w2
  intro h2
  have h3 : (w2.setCell ⟨p, 3, none⟩ x3).heap[p]? = some (.cells #[x0, x1, x2, x3, a4, a5, a6, a7, a8] t fr) := by rw [heapSet h2]; rfl
  revert h3
  generalize w2.setCell ⟨p, 3, none⟩ x3 = w3
  intro h3
  have h4 : (w3.setCell ⟨p, 4, none⟩ x4).heap[p]? = some (.cells #[x0, x1, x2, x3, x4, a5, a6, a7, a8] t fr) := by rw [heapSet h3]; rfl
  revert h4
  generalize w3.setCell ⟨p, 4, none⟩ x4 = w4
  intro h4
  have h5 : (w4.setCell ⟨p, 5, none⟩ x5).heap[p]? = some (.cells #[x0, x1, x2, x3, x4, x5, a6, a7, a8] t fr) := by rw [heapSet h4]; rfl
  revert h5
  generalize w4.setCell ⟨p, 5, none⟩ x5 = w5
  intro h5
  have h6 : (w5.setCell ⟨p, 6, none⟩ x6).heap[p]? = some (.cells #[x0, x1, x2, x3, x4, x5, x6, a7, a8] t fr) := by rw [heapSet h5]; rfl
  revert h6
  generalize w5.setCell ⟨p, 6, none⟩ x6 = w6
  intro h6
  have h7 : (w6.setCell ⟨p, 7, none⟩ x7).heap[p]? = some (.cells #[x0, x1, x2, x3, x4, x5, x6, x7, a8] t fr) := by rw [heapSet h6]; rfl
  revert h7
  generalize w6.setCell ⟨p, 7, none⟩ x7 = w7
  intro h7
  have h8 : (w7.setCell ⟨p, 8, none⟩ x8).heap[p]? = some (.cells #[x0, x1, x2, x3, x4, x5, x6, x7, x8] t fr) := by rw [heapSet h7]; rfl
  revert h8
  generalize w7.setCell ⟨p, 8, none⟩ x8 = w8
  intro h8
  exact h8
theorem modSet9p {F : List Nat} {v w : World} {p : Nat} {x0 x1 x2 x3 x4 x5 x6 x7 x8 : Value} (h : Mod F v w) (hn : p ∈ F ∨ v.heap.size ≤ p) : Mod F v (((((((((w.setCell ⟨p, 0, none⟩ (x0)).setCell ⟨p, 1, none⟩ (x1)).setCell ⟨p, 2, none⟩ (x2)).setCell ⟨p, 3, none⟩ (x3)).setCell ⟨p, 4, none⟩ (x4)).setCell ⟨p, 5, none⟩ (x5)).setCell ⟨p, 6, none⟩ (x6)).setCell ⟨p, 7, none⟩ (x7)).setCell ⟨p, 8, none⟩ (x8)) := (((((((((h).set (p := ⟨p, 0, none⟩) hn x0).set (p := ⟨p, 1, none⟩) hn x1).set (p := ⟨p, 2, none⟩) hn x2).set (p := ⟨p, 3, none⟩) hn x3).set (p := ⟨p, 4, none⟩) hn x4).set (p := ⟨p, 5, none⟩) hn x5).set (p := ⟨p, 6, none⟩) hn x6).set (p := ⟨p, 7, none⟩) hn x7).set (p := ⟨p, 8, none⟩) hn x8
/-- What it tells its coordinator. -/
def whatM (p : Pt) : Msg × Bool := if mayPt p = true ∧ p.st ≠ 1 then (if sO p.st = true then (⟨4, p.tx, 0, [], [], false, []⟩, true) else (⟨2, p.tx, 0, [], [], decide (p.st = 2), p.tag⟩, true)) else (⟨0, (0, 0, 0), 0, [], [], false, []⟩, false)
theorem boxes2 {w W : World} {A B : Obj} (h : (w.alloc A).alloc B = W) : W.heap[w.heap.size]? = some A ∧ W.heap[w.heap.size + 1]? = some B ∧ Mod [] w W := two10 h
set_option maxRecDepth 20000 in
set_option maxHeartbeats 16000000 in
theorem pWhat_cps (p : Pt) (ms : Value) (w : World) (h : PtIn w p ms) (R : Ending → World → Prop) (hR : ∀ w', Mod [] w w' → R (.returned (.tuple #[msgV (whatM p).1 (.slice none 0 0), .bool (whatM p).2])) w') :
    Calls Try.prog 33 #[ptV p ms] w R := by
  unfold whatM at hR
  have hCk := fun w h => pCheck_cps p ms w h
  have hin := fun w' hM => (h.mod hM : PtIn w' p ms)
  have hst := h.st
  have hse := h.sent
  have os : ms.oneCell' = true := by obtain ⟨a, c, e⟩ := h.rd.slice; rw [e]; rfl
  have hm15 : mayPt p = true → (1 ≤ p.st ∧ p.st ≤ 5) ∧ tagB p.st p.tag = true := fun h => by
    unfold mayPt at h
    simp only [Bool.and_eq_true, decide_eq_true_eq] at h
    exact ⟨h.1.1.1.1, h.2⟩
  clear h
  generalize mayPt p = B at *
  obtain ⟨⟨xa, xb, xc⟩, aud, mbs, org, body, st, tag, sent⟩ := p
  unfold ptV ptC at *
  simp only at hCk hR hst hse hm15 ⊢
  refine calls_go 4000 okT Try.func33 rfl (rs := [.cell 2 42, .tmp 3]) rfl Try.ntmps33 (args := [.agg #[.int .i64 xa, .int .i64 xb, .int .i64 xc, .int .i64 aud, ms, .int .i64 org, .string ⟨body.toArray⟩, .int .u8 st, .string ⟨tag.toArray⟩, .int .i64 sent]]) ?_
  simp (maxSteps := 1000000) (disch := first | omega | (simp only [sizeAlloc, sizeDrew, sizeSet, sizePut] <;> omega) | fail) only [GS, TT_eq, TTl, Nat.reduceAdd, Nat.reduceMul, Nat.reduceSub, Nat.reduceDiv, Nat.reduceMod, Nat.reducePow, Nat.reduceEqDiff, ↓reduceIte, reduceCtorEq, Int.reduceToNat, Int.reduceAdd, Int.reduceSub, Int.reduceMul, os, cellsL_one os]
  generalize hW : (w.alloc (.cells #[.int .i64 xa, .int .i64 xb, .int .i64 xc, .int .i64 aud, ms, .int .i64 org, .string ⟨body.toArray⟩, .int .u8 st, .string ⟨tag.toArray⟩, .int .i64 sent] 64)).alloc (.cells #[.int .u8 0, .int .i64 0, .int .i64 0, .int .i64 0, .int .i64 0, .slice none 0 0, .string ⟨#[]⟩, .bool false, .string ⟨#[]⟩] 42) = w1
  obtain ⟨hA, hB, hM0⟩ := boxes2 hW
  clear hW
  generalize hn : w.heap.size = n at *
  have hgeB : w.heap.size ≤ n + 1 := by omega
  refine ⟨fok31, hCk _ (hin _ hM0) _ fun w2 hM2 => .inl ⟨_, rfl, hold_ops okT (rs := [.cell 2 42, .tmp 3]) rfl ?_⟩⟩
  have hA2 := hM2.get hA (by simp)
  have hB2 := hM2.get hB (by simp)
  have hM02 := hM0.trans hM2 (by simp)
  have c2 := fun o => cellOf (o := o) hA2
  have d2 := fun o => cellOf (o := o) hB2
  have x2 := fun o => frozenOf (o := o) hB2
  cases B
  · rw [if_neg (fun h => by simp at h)] at hR
    simp only [Bool.false_eq_true, if_false]
    unfold msgV msgC at hR
    simp (maxSteps := 1000000) (disch := first | omega | (simp only [sizeAlloc, sizeDrew, sizeSet, sizePut] <;> omega) | fail) only [GS, TT_eq, TTl, Nat.reduceAdd, Nat.reduceMul, Nat.reduceSub, Nat.reduceDiv, Nat.reduceMod, Nat.reducePow, Nat.reduceEqDiff, ↓reduceIte, reduceCtorEq, Int.reduceToNat, Int.reduceAdd, Int.reduceSub, Int.reduceMul, d2, x2]
    refine load9p (st9p hB2) ?_
    exact hR _ (modSet9p hM02 (.inr hgeB))
  simp only [if_true]
  have hs15 := (hm15 rfl).1
  by_cases hs1 : st = 1
  · rw [if_neg (fun h => h.2 hs1)] at hR
    unfold msgV msgC at hR
    simp (maxSteps := 1000000) (disch := first | omega | (simp only [sizeAlloc, sizeDrew, sizeSet, sizePut] <;> omega) | fail) only [GS, TT_eq, TTl, Nat.reduceAdd, Nat.reduceMul, Nat.reduceSub, Nat.reduceDiv, Nat.reduceMod, Nat.reducePow, Nat.reduceEqDiff, ↓reduceIte, reduceCtorEq, Int.reduceToNat, Int.reduceAdd, Int.reduceSub, Int.reduceMul, c2, d2, x2, (decide_eq_true (show (st : Int) = 1 by omega))]
    refine load9p (st9p hB2) ?_
    exact hR _ (modSet9p hM02 (.inr hgeB))
  rw [if_pos ⟨rfl, hs1⟩] at hR
  simp (maxSteps := 1000000) (disch := first | omega | (simp only [sizeAlloc, sizeDrew, sizeSet, sizePut] <;> omega) | fail) only [GS, TT_eq, TTl, Nat.reduceAdd, Nat.reduceMul, Nat.reduceSub, Nat.reduceDiv, Nat.reduceMod, Nat.reducePow, Nat.reduceEqDiff, ↓reduceIte, reduceCtorEq, Int.reduceToNat, Int.reduceAdd, Int.reduceSub, Int.reduceMul, c2, (decide_eq_false (show ¬ (st : Int) = 1 by omega))]
  refine hold_draw okT (rs := [.cell 2 42, .tmp 3]) rfl [0, 0, 2, 7, 15, 31] [1, 2, 0, 3, 4, 5] (by kernel_rfl) (by kernel_rfl) ?_
  have hM45 := (Mod.refl [] w2).drewN 1
  generalize w2.drewN 1 = w5 at *
  have hA5 := hM45.get hA2 (by simp)
  have hB5 := hM45.get hB2 (by simp)
  have hM05 := hM02.trans hM45 (by simp)
  have c5 := fun o => cellOf (o := o) hA5
  simp (maxSteps := 1000000) (disch := first | omega | (simp only [sizeAlloc, sizeDrew, sizeSet, sizePut] <;> omega) | fail) only [GS, TT_eq, TTl, Nat.reduceAdd, Nat.reduceMul, Nat.reduceSub, Nat.reduceDiv, Nat.reduceMod, Nat.reducePow, Nat.reduceEqDiff, ↓reduceIte, reduceCtorEq, Int.reduceToNat, Int.reduceAdd, Int.reduceSub, Int.reduceMul, c5]
  refine ⟨fok73, pStates_cps _ _ fun w6 hM56 => .inl ⟨_, rfl, ?_⟩⟩
  refine ⟨cellM (c5 7) hM56, hold_dops okT (rs := [.cell 2 42, .tmp 3]) rfl ?_⟩
  have hA6 := hM56.get hA5 (by simp)
  have hB6 := hM56.get hB5 (by simp)
  have hM06 := hM05.trans hM56 (by simp)
  have c6 := fun o => cellOf (o := o) hA6
  have d6 := fun o => cellOf (o := o) hB6
  have x6 := fun o => frozenOf (o := o) hB6
  unfold stsV
  cases hO : sO st
  rotate_left
  · rw [hO] at hR
    simp only [if_true] at hR
    unfold msgV msgC at hR
    simp (maxSteps := 1000000) (disch := first | omega | (simp only [sizeAlloc, sizeDrew, sizeSet, sizePut] <;> omega) | fail) only [GS, TT_eq, TTl, Nat.reduceAdd, Nat.reduceMul, Nat.reduceSub, Nat.reduceDiv, Nat.reduceMod, Nat.reducePow, Nat.reduceEqDiff, ↓reduceIte, reduceCtorEq, Int.reduceToNat, Int.reduceAdd, Int.reduceSub, Int.reduceMul, c6, d6, x6, chkO_s hs15.2, idx_sts hs15, hO]
    refine load9p (st9p hB6) ?_
    exact hR _ (modSet9p hM06 (.inr hgeB))
  rw [hO] at hR
  simp only [Bool.false_eq_true, if_false] at hR
  unfold msgV msgC at hR
  simp only at hR
  have hd : decide (st = 2) = decide ((st : Int) = 2) := decide_eq_decide.2 ⟨fun h => by omega, fun h => by omega⟩
  rw [hd] at hR
  simp (maxSteps := 1000000) (disch := first | omega | (simp only [sizeAlloc, sizeDrew, sizeSet, sizePut] <;> omega) | fail) only [GS, TT_eq, TTl, Nat.reduceAdd, Nat.reduceMul, Nat.reduceSub, Nat.reduceDiv, Nat.reduceMod, Nat.reducePow, Nat.reduceEqDiff, ↓reduceIte, reduceCtorEq, Int.reduceToNat, Int.reduceAdd, Int.reduceSub, Int.reduceMul, c6, d6, x6, chkO_s hs15.2, idx_sts hs15, hO]
  refine load9p (st9p hB6) ?_
  exact hR _ (modSet9p hM06 (.inr hgeB))
end Go.Proofs.Ytpcilobbohokcaa
