/-
  part.Check (walk).
-/
import Derived.Test.YtpcilobbohokcaaPkpPar3
set_option linter.unusedSimpArgs false
set_option linter.unusedVariables false
namespace Go.Proofs.Ytpcilobbohokcaa
open Go Go.Wk Go.RowKit
attribute [local irreducible] go Hold
open Go.Lib
theorem bx10 {w W : World} {t : Nat} {a0 a1 a2 a3 a4 a5 a6 a7 a8 a9 : Value} (h : w.alloc (.cells #[a0, a1, a2, a3, a4, a5, a6, a7, a8, a9] t) = W) : W.heap[w.heap.size]? = some (.cells #[a0, a1, a2, a3, a4, a5, a6, a7, a8, a9] t (0, 0)) ∧ Mod [] w W := by
  subst h
  exact ⟨heapNew, (Mod.refl [] w).alloc _⟩
/-- What there is in a state: a tag; none; it may commit; it may vote; it is over. -/
def sT (s : Nat) : Bool := decide (s = 2 ∨ s = 4 ∨ s = 5)
def sN (s : Nat) : Bool := decide (s = 1 ∨ s = 3 ∨ s = 5)
def sC (s : Nat) : Bool := decide (s = 2)
def sY (s : Nat) : Bool := decide (s = 1)
def sO (s : Nat) : Bool := decide (s = 4 ∨ s = 5)
theorem idx_sts {s : Nat} (h : 1 ≤ s ∧ s ≤ 5) : tke 5 (drp (s * 5) [.bool false, .bool false, .bool false, .bool false, .bool false, .bool false, .bool true, .bool false, .bool true, .bool false, .bool true, .bool false, .bool true, .bool false, .bool false, .bool false, .bool true, .bool false, .bool false, .bool false, .bool true, .bool false, .bool false, .bool false, .bool true, .bool true, .bool true, .bool false, .bool false, .bool true]) = [.bool (sT s), .bool (sN s), .bool (sC s), .bool (sY s), .bool (sO s)] := by
  have : s = 1 ∨ s = 2 ∨ s = 3 ∨ s = 4 ∨ s = 5 := by omega
  rcases this with rfl | rfl | rfl | rfl | rfl <;> rfl
theorem chkO_s {s : Nat} (h : s ≤ 5) (o : Option Value) : chkO (0 ≤ (s : Int) ∧ (s : Int) < 6) o = o := by
  have h2 : (0 : Int) ≤ (s : Int) ∧ (s : Int) < 6 := by omega
  unfold chkO
  simp [h2]
theorem check_nil : ¬ checkS [] = 0 := by decide
theorem tag_nil {s : Nat} (h : 1 ≤ s ∧ s ≤ 5) : tagB s [] = sN s := by
  have : s = 1 ∨ s = 2 ∨ s = 3 ∨ s = 4 ∨ s = 5 := by omega
  unfold tagB sN
  rcases this with rfl | rfl | rfl | rfl | rfl <;> simp [check_nil]
theorem tag_cons {s : Nat} {t : List UInt8} (h : 1 ≤ s ∧ s ≤ 5) (ht : ¬ t = []) : tagB s t = (sT s && decide (checkS t = 0)) := by
  have : s = 1 ∨ s = 2 ∨ s = 3 ∨ s = 4 ∨ s = 5 := by omega
  unfold tagB sT
  rcases this with rfl | rfl | rfl | rfl | rfl <;> simp [ht]
theorem box5 {w : World} {p t : Nat} {fr : Nat × Nat} {a0 a1 a2 a3 a4 x0 x1 x2 x3 x4 : Value} (h : w.heap[p]? = some (.cells #[a0, a1, a2, a3, a4] t fr)) : (((((w.setCell ⟨p, 0, none⟩ x0).setCell ⟨p, 1, none⟩ x1).setCell ⟨p, 2, none⟩ x2).setCell ⟨p, 3, none⟩ x3).setCell ⟨p, 4, none⟩ x4).heap[p]? = some (.cells #[x0, x1, x2, x3, x4] t fr) := by
  rw [heapSet (heapSet (heapSet (heapSet (heapSet h))))]
  rfl
theorem modSet5 {F : List Nat} {v w : World} {p : Nat} {x0 x1 x2 x3 x4 : Value} (h : Mod F v w) (hn : p ∈ F ∨ v.heap.size ≤ p) : Mod F v (((((w.setCell ⟨p, 0, none⟩ x0).setCell ⟨p, 1, none⟩ x1).setCell ⟨p, 2, none⟩ x2).setCell ⟨p, 3, none⟩ x3).setCell ⟨p, 4, none⟩ x4) :=
  ((((h.set (p := ⟨p, 0, none⟩) hn x0).set (p := ⟨p, 1, none⟩) hn x1).set (p := ⟨p, 2, none⟩) hn x2).set (p := ⟨p, 3, none⟩) hn x3).set (p := ⟨p, 4, none⟩) hn x4
theorem setNe5 {w : World} {p q : Nat} {o : Obj} {x0 x1 x2 x3 x4 : Value} (h : w.heap[q]? = some o) (hn : q ≠ p) : (((((w.setCell ⟨p, 0, none⟩ x0).setCell ⟨p, 1, none⟩ x1).setCell ⟨p, 2, none⟩ x2).setCell ⟨p, 3, none⟩ x3).setCell ⟨p, 4, none⟩ x4).heap[q]? = some o :=
  heapSetNe (heapSetNe (heapSetNe (heapSetNe (heapSetNe h hn) hn) hn) hn) hn
set_option maxRecDepth 20000 in
set_option maxHeartbeats 16000000 in
theorem pCheck_cps (p : Pt) (ms : Value) (w : World) (h : PtIn w p ms) (R : Ending → World → Prop) (hR : ∀ w', Mod [] w w' → R (.returned (.int .i64 (if mayPt p = true then 0 else 2))) w') :
    Calls Try.prog 31 #[ptV p ms] w R := by
  have hOf := fun w h => pOf_cps p ms w h
  have hin := fun w' hM => (h.mod hM : PtIn w' p ms)
  have hBc := fun ms w h1 => balCheck_cps p.tx p.aud ms p.mbs p.org w h.len h.dig h1
  have hTB := fun w => tCheck_cps p.body h.body w
  have hTT := fun w => tCheck_cps p.tag h.tag w
  have os : ms.oneCell' = true := by obtain ⟨a, c, e⟩ := h.rd.slice; rw [e]; rfl
  have hst := h.st
  clear h
  unfold mayPt at hR
  obtain ⟨⟨xa, xb, xc⟩, aud, mbs, org, body, st, tag, sent⟩ := p
  unfold ptV ptC at hOf ⊢
  simp only at hR hOf hBc hTB hTT hst ⊢
  generalize balB (xa, xb, xc) aud mbs org = B at hR hBc
  refine calls_go 4000 okT Try.func31 rfl (rs := [.tmp 2]) rfl Try.ntmps31 (args := [.agg #[.int .i64 xa, .int .i64 xb, .int .i64 xc, .int .i64 aud, ms, .int .i64 org, .string ⟨body.toArray⟩, .int .u8 st, .string ⟨tag.toArray⟩, .int .i64 sent]]) ?_
  simp (maxSteps := 1000000) (disch := first | omega | (simp only [sizeAlloc, sizeDrew, sizeSet, sizePut] <;> omega) | fail) only [GS, TT_eq, TTl, Nat.reduceAdd, Nat.reduceMul, Nat.reduceSub, Nat.reduceDiv, Nat.reduceMod, Nat.reducePow, Nat.reduceEqDiff, ↓reduceIte, reduceCtorEq, Int.reduceToNat, Int.reduceAdd, Int.reduceSub, Int.reduceMul, os, cellsL_one os]
  generalize hW : w.alloc (.cells #[.int .i64 xa, .int .i64 xb, .int .i64 xc, .int .i64 aud, ms, .int .i64 org, .string ⟨body.toArray⟩, .int .u8 st, .string ⟨tag.toArray⟩, .int .i64 sent] 64) = w1
  obtain ⟨hA, hM0⟩ := bx10 hW
  clear hW
  generalize hn : w.heap.size = n at *
  have c1 := fun o => cellOf (o := o) hA
  by_cases hs1 : (st : Int) < 1
  · rw [decide_eq_false (show ¬ (1 ≤ st ∧ st ≤ 5) by omega)] at hR
    simp only [Bool.false_and, Bool.false_eq_true, if_false] at hR
    simp (maxSteps := 1000000) (disch := first | omega | (simp only [sizeAlloc, sizeDrew, sizeSet, sizePut] <;> omega) | fail) only [GS, TT_eq, TTl, Nat.reduceAdd, Nat.reduceMul, Nat.reduceSub, Nat.reduceDiv, Nat.reduceMod, Nat.reducePow, Nat.reduceEqDiff, ↓reduceIte, reduceCtorEq, Int.reduceToNat, Int.reduceAdd, Int.reduceSub, Int.reduceMul, c1, hs1]
    exact hR _ hM0
  by_cases hs5 : (5 : Int) < (st : Int)
  · rw [decide_eq_false (show ¬ (1 ≤ st ∧ st ≤ 5) by omega)] at hR
    simp only [Bool.false_and, Bool.false_eq_true, if_false] at hR
    simp (maxSteps := 1000000) (disch := first | omega | (simp only [sizeAlloc, sizeDrew, sizeSet, sizePut] <;> omega) | fail) only [GS, TT_eq, TTl, Nat.reduceAdd, Nat.reduceMul, Nat.reduceSub, Nat.reduceDiv, Nat.reduceMod, Nat.reducePow, Nat.reduceEqDiff, ↓reduceIte, reduceCtorEq, Int.reduceToNat, Int.reduceAdd, Int.reduceSub, Int.reduceMul, c1, hs1, hs5]
    exact hR _ hM0
  rw [decide_eq_true (show 1 ≤ st ∧ st ≤ 5 by omega), Bool.true_and] at hR
  by_cases hse : sent < -1
  · rw [decide_eq_false (show ¬ -1 ≤ sent by omega)] at hR
    simp only [Bool.false_and, Bool.false_eq_true, if_false] at hR
    simp (maxSteps := 1000000) (disch := first | omega | (simp only [sizeAlloc, sizeDrew, sizeSet, sizePut] <;> omega) | fail) only [GS, TT_eq, TTl, Nat.reduceAdd, Nat.reduceMul, Nat.reduceSub, Nat.reduceDiv, Nat.reduceMod, Nat.reducePow, Nat.reduceEqDiff, ↓reduceIte, reduceCtorEq, Int.reduceToNat, Int.reduceAdd, Int.reduceSub, Int.reduceMul, c1, hs1, hs5, hse]
    exact hR _ hM0
  rw [decide_eq_true (show -1 ≤ sent by omega), Bool.true_and] at hR
  simp (maxSteps := 1000000) (disch := first | omega | (simp only [sizeAlloc, sizeDrew, sizeSet, sizePut] <;> omega) | fail) only [GS, TT_eq, TTl, Nat.reduceAdd, Nat.reduceMul, Nat.reduceSub, Nat.reduceDiv, Nat.reduceMod, Nat.reducePow, Nat.reduceEqDiff, ↓reduceIte, reduceCtorEq, Int.reduceToNat, Int.reduceAdd, Int.reduceSub, Int.reduceMul, c1, hs1, hs5, hse]
  refine ⟨fok12, hTB _ _ fun w2 hM2 => .inl ⟨_, rfl, hold_ops okT (rs := [.tmp 2]) rfl ?_⟩⟩
  have hA2 := hM2.get hA (by simp)
  have hM02 := hM0.trans hM2 (by simp)
  have c2 := fun o => cellOf (o := o) hA2
  by_cases hbd : checkS body = 0
  rotate_left
  · rw [decide_eq_false hbd] at hR
    simp only [Bool.false_and, Bool.false_eq_true, if_false] at hR
    simp (maxSteps := 1000000) (disch := first | omega | (simp only [sizeAlloc, sizeDrew, sizeSet, sizePut] <;> omega) | fail) only [GS, TT_eq, TTl, Nat.reduceAdd, Nat.reduceMul, Nat.reduceSub, Nat.reduceDiv, Nat.reduceMod, Nat.reducePow, Nat.reduceEqDiff, ↓reduceIte, reduceCtorEq, Int.reduceToNat, Int.reduceAdd, Int.reduceSub, Int.reduceMul, hbd]
    exact hR _ hM02
  rw [decide_eq_true hbd, Bool.true_and] at hR
  simp (maxSteps := 1000000) (disch := first | omega | (simp only [sizeAlloc, sizeDrew, sizeSet, sizePut] <;> omega) | fail) only [GS, TT_eq, TTl, Nat.reduceAdd, Nat.reduceMul, Nat.reduceSub, Nat.reduceDiv, Nat.reduceMod, Nat.reducePow, Nat.reduceEqDiff, ↓reduceIte, reduceCtorEq, Int.reduceToNat, Int.reduceAdd, Int.reduceSub, Int.reduceMul, hbd, c2]
  refine ⟨fok69, hOf _ (hin _ hM02) _ fun cv w3 hcv hM3 => .inl ⟨_, rfl, hold_ops okT (rs := [.tmp 2]) rfl ?_⟩⟩
  have hA3 := hM3.get hA2 (by simp)
  have hM03 := hM02.trans hM3 (by simp)
  unfold balV
  simp only
  simp (maxSteps := 1000000) (disch := first | omega | (simp only [sizeAlloc, sizeDrew, sizeSet, sizePut] <;> omega) | fail) only [GS, TT_eq, TTl, Nat.reduceAdd, Nat.reduceMul, Nat.reduceSub, Nat.reduceDiv, Nat.reduceMod, Nat.reducePow, Nat.reduceEqDiff, ↓reduceIte, reduceCtorEq, Int.reduceToNat, Int.reduceAdd, Int.reduceSub, Int.reduceMul]
  have hBc' := hBc cv w3 (Rd.own hcv)
  unfold balV at hBc'
  simp only at hBc'
  refine ⟨fok72, hBc' _ fun w4 hM4 => .inl ⟨_, rfl, hold_ops okT (rs := [.tmp 2]) rfl ?_⟩⟩
  have hA4 := hM4.get hA3 (by simp)
  have hM04 := hM03.trans hM4 (by simp)
  clear hBc hBc' hOf hin hA hA2 hA3 hM0 hM02 hM03 c1 c2 hcv
  cases B
  · simp only [Bool.false_and, Bool.false_eq_true, if_false] at hR ⊢
    simp (maxSteps := 1000000) (disch := first | omega | (simp only [sizeAlloc, sizeDrew, sizeSet, sizePut] <;> omega) | fail) only [GS, TT_eq, TTl, Nat.reduceAdd, Nat.reduceMul, Nat.reduceSub, Nat.reduceDiv, Nat.reduceMod, Nat.reducePow, Nat.reduceEqDiff, ↓reduceIte, reduceCtorEq, Int.reduceToNat, Int.reduceAdd, Int.reduceSub, Int.reduceMul]
    exact hR _ hM04
  simp only [Bool.true_and, if_true] at hR ⊢
  have hst5 : 1 ≤ st ∧ st ≤ 5 := by omega
  simp (maxSteps := 1000000) (disch := first | omega | (simp only [sizeAlloc, sizeDrew, sizeSet, sizePut] <;> omega) | fail) only [GS, TT_eq, TTl, Nat.reduceAdd, Nat.reduceMul, Nat.reduceSub, Nat.reduceDiv, Nat.reduceMod, Nat.reducePow, Nat.reduceEqDiff, ↓reduceIte, reduceCtorEq, Int.reduceToNat, Int.reduceAdd, Int.reduceSub, Int.reduceMul]
  refine hold_tree okT [0, 0, 2, 7, 0, 31] (.qop 1 (.qop 2 (.eff 0 (.lin [3, 4, 5]) (.eff 4 (.lin [0, 3, 5]) .stop)))) (by kernel_rfl) ?_
  have hA5 : (w4.drewN 1).heap[n]? = _ := hA4
  have hM05 := hM04.drewN 1
  generalize w4.drewN 1 = w5 at *
  have c5 := fun o => cellOf (o := o) hA5
  refine ht_val okT rfl rfl (v := .pointer (some ⟨n, 7, none⟩)) (by simp (maxSteps := 1000000) (disch := first | omega | (simp only [sizeAlloc, sizeDrew, sizeSet, sizePut] <;> omega) | fail) only [GS, TT_eq, TTl, Nat.reduceAdd, Nat.reduceMul, Nat.reduceSub, Nat.reduceDiv, Nat.reduceMod, Nat.reducePow, Nat.reduceEqDiff, ↓reduceIte, reduceCtorEq, Int.reduceToNat, Int.reduceAdd, Int.reduceSub, Int.reduceMul]) ?_
  refine ht_val okT rfl rfl (v := .int .u8 st) (by simp (maxSteps := 1000000) (disch := first | omega | (simp only [sizeAlloc, sizeDrew, sizeSet, sizePut] <;> omega) | fail) only [GS, TT_eq, TTl, Nat.reduceAdd, Nat.reduceMul, Nat.reduceSub, Nat.reduceDiv, Nat.reduceMod, Nat.reducePow, Nat.reduceEqDiff, ↓reduceIte, reduceCtorEq, Int.reduceToNat, Int.reduceAdd, Int.reduceSub, Int.reduceMul, c5]) ?_
  refine ht_call okT rfl rfl ?_ ?_
  · simp (maxSteps := 1000000) (disch := first | omega | (simp only [sizeAlloc, sizeDrew, sizeSet, sizePut] <;> omega) | fail) only [GS, TT_eq, TTl, Nat.reduceAdd, Nat.reduceMul, Nat.reduceSub, Nat.reduceDiv, Nat.reduceMod, Nat.reducePow, Nat.reduceEqDiff, ↓reduceIte, reduceCtorEq, Int.reduceToNat, Int.reduceAdd, Int.reduceSub, Int.reduceMul]
    refine ⟨fok73, pStates_cps _ _ fun w6 hM6 => .inl ⟨_, rfl, cellM (c5 7) hM6, ?_⟩⟩
    have hA6 := hM6.get hA5 (by simp)
    have hM06 := hM05.trans hM6 (by simp)
    have c6 := fun o => cellOf (o := o) hA6
    refine ht_lin rfl (hold_stop (s' := some 4) (hold_dops okT (rs := [.tmp 2]) rfl ?_))
    unfold stsV
    simp (maxSteps := 1000000) (disch := first | omega | (simp only [sizeAlloc, sizeDrew, sizeSet, sizePut] <;> omega) | fail) only [GS, TT_eq, TTl, Nat.reduceAdd, Nat.reduceMul, Nat.reduceSub, Nat.reduceDiv, Nat.reduceMod, Nat.reducePow, Nat.reduceEqDiff, ↓reduceIte, reduceCtorEq, Int.reduceToNat, Int.reduceAdd, Int.reduceSub, Int.reduceMul, c6, chkO_s hst5.2, idx_sts hst5]
    have hMa := (Mod.refl [] w6).alloc (.cells #[.bool false, .bool false, .bool false, .bool false, .bool false] 121)
    refine ⟨cellM (c6 7) hMa, ?_⟩
    have hka := heapNew (w := w6) (o := .cells #[.bool false, .bool false, .bool false, .bool false, .bool false] 121)
    have hA7 := heapAlloc (o' := .cells #[.bool false, .bool false, .bool false, .bool false, .bool false] 121) hA6
    have hM07 := hM06.alloc (.cells #[.bool false, .bool false, .bool false, .bool false, .bool false] 121)
    have hnb : n < w6.heap.size := (Array.getElem?_eq_some_iff.1 hA6).1
    have hwb := hM06.size
    have hB9 := box5 hka (x0 := .bool (sT st)) (x1 := .bool (sN st)) (x2 := .bool (sC st)) (x3 := .bool (sY st)) (x4 := .bool (sO st))
    have hA9 := setNe5 (p := w6.heap.size) (x0 := .bool (sT st)) (x1 := .bool (sN st)) (x2 := .bool (sC st)) (x3 := .bool (sY st)) (x4 := .bool (sO st)) hA7 (by omega)
    have hM09 := modSet5 (p := w6.heap.size) (x0 := .bool (sT st)) (x1 := .bool (sN st)) (x2 := .bool (sC st)) (x3 := .bool (sY st)) (x4 := .bool (sO st)) hM07 (.inr hwb)
    clear hka hA7 hM07 hMa
    revert hB9 hA9 hM09
    generalize ((((((w6.alloc (.cells #[.bool false, .bool false, .bool false, .bool false, .bool false] 121)).setCell ⟨w6.heap.size, 0, none⟩ (.bool (sT st))).setCell ⟨w6.heap.size, 1, none⟩ (.bool (sN st))).setCell ⟨w6.heap.size, 2, none⟩ (.bool (sC st))).setCell ⟨w6.heap.size, 3, none⟩ (.bool (sY st))).setCell ⟨w6.heap.size, 4, none⟩ (.bool (sO st))) = w9
    generalize w6.heap.size = b9
    intro hB9 hA9 hM09
    have c9 := fun o => cellOf (o := o) hA9
    refine hold_stop (s' := none) ?_
    refine hold_code okT (rs := [.tmp 2]) rfl ?_
    by_cases ht : tag = []
    · subst ht
      rw [tag_nil hst5] at hR
      cases hN : sN st
      · rw [hN] at hR hB9
        simp only [Bool.false_eq_true, if_false] at hR
        have d9 := fun o => cellOf (o := o) hB9
        simp (maxSteps := 1000000) (disch := first | omega | (simp only [sizeAlloc, sizeDrew, sizeSet, sizePut] <;> omega) | fail) only [GS, TT_eq, TTl, Nat.reduceAdd, Nat.reduceMul, Nat.reduceSub, Nat.reduceDiv, Nat.reduceMod, Nat.reducePow, Nat.reduceEqDiff, ↓reduceIte, reduceCtorEq, Int.reduceToNat, Int.reduceAdd, Int.reduceSub, Int.reduceMul, c9, d9, eq_self]
        exact hR _ hM09
      · rw [hN] at hR hB9
        simp only [if_true] at hR
        have d9 := fun o => cellOf (o := o) hB9
        simp (maxSteps := 1000000) (disch := first | omega | (simp only [sizeAlloc, sizeDrew, sizeSet, sizePut] <;> omega) | fail) only [GS, TT_eq, TTl, Nat.reduceAdd, Nat.reduceMul, Nat.reduceSub, Nat.reduceDiv, Nat.reduceMod, Nat.reducePow, Nat.reduceEqDiff, ↓reduceIte, reduceCtorEq, Int.reduceToNat, Int.reduceAdd, Int.reduceSub, Int.reduceMul, c9, d9, eq_self]
        exact hR _ hM09
    rw [tag_cons hst5 ht] at hR
    cases hT : sT st
    · rw [hT] at hR hB9
      simp only [Bool.false_and, Bool.false_eq_true, if_false] at hR
      have d9 := fun o => cellOf (o := o) hB9
      simp (maxSteps := 1000000) (disch := first | omega | (simp only [sizeAlloc, sizeDrew, sizeSet, sizePut] <;> omega) | fail) only [GS, TT_eq, TTl, Nat.reduceAdd, Nat.reduceMul, Nat.reduceSub, Nat.reduceDiv, Nat.reduceMod, Nat.reducePow, Nat.reduceEqDiff, ↓reduceIte, reduceCtorEq, Int.reduceToNat, Int.reduceAdd, Int.reduceSub, Int.reduceMul, c9, d9, ht]
      exact hR _ hM09
    rw [hT] at hR hB9
    simp only [Bool.true_and] at hR
    have d9 := fun o => cellOf (o := o) hB9
    simp (maxSteps := 1000000) (disch := first | omega | (simp only [sizeAlloc, sizeDrew, sizeSet, sizePut] <;> omega) | fail) only [GS, TT_eq, TTl, Nat.reduceAdd, Nat.reduceMul, Nat.reduceSub, Nat.reduceDiv, Nat.reduceMod, Nat.reducePow, Nat.reduceEqDiff, ↓reduceIte, reduceCtorEq, Int.reduceToNat, Int.reduceAdd, Int.reduceSub, Int.reduceMul, c9, d9, ht]
    refine ⟨fok12, hTT _ _ fun wA hMA => .inl ⟨_, rfl, hold_ops okT (rs := [.tmp 2]) rfl ?_⟩⟩
    by_cases hct : checkS tag = 0
    · rw [decide_eq_true hct] at hR
      simp only [if_true] at hR
      simp (maxSteps := 1000000) (disch := first | omega | (simp only [sizeAlloc, sizeDrew, sizeSet, sizePut] <;> omega) | fail) only [GS, TT_eq, TTl, Nat.reduceAdd, Nat.reduceMul, Nat.reduceSub, Nat.reduceDiv, Nat.reduceMod, Nat.reducePow, Nat.reduceEqDiff, ↓reduceIte, reduceCtorEq, Int.reduceToNat, Int.reduceAdd, Int.reduceSub, Int.reduceMul, hct]
      exact hR _ (hM09.trans hMA (by simp))
    · rw [decide_eq_false hct] at hR
      simp only [Bool.false_eq_true, if_false] at hR
      simp (maxSteps := 1000000) (disch := first | omega | (simp only [sizeAlloc, sizeDrew, sizeSet, sizePut] <;> omega) | fail) only [GS, TT_eq, TTl, Nat.reduceAdd, Nat.reduceMul, Nat.reduceSub, Nat.reduceDiv, Nat.reduceMod, Nat.reducePow, Nat.reduceEqDiff, ↓reduceIte, reduceCtorEq, Int.reduceToNat, Int.reduceAdd, Int.reduceSub, Int.reduceMul, hct]
      exact hR _ (hM09.trans hMA (by simp))
  · refine ht_eff okT rfl rfl (v := .pointer (some ⟨w5.heap.size, 0, none⟩)) (w' := w5.alloc (.cells #[.bool false, .bool false, .bool false, .bool false, .bool false] 121)) (by simp (maxSteps := 1000000) only [GS, TT_eq, TTl, Nat.reduceAdd, Nat.reduceMul, Nat.reduceSub, Nat.reduceDiv, Nat.reduceMod, Nat.reducePow, Nat.reduceEqDiff, ↓reduceIte, reduceCtorEq, Int.reduceToNat, Int.reduceAdd, Int.reduceSub, Int.reduceMul]) ?_ ?_ ht_stop
    all_goals have hMa := (Mod.refl [] w5).alloc (.cells #[.bool false, .bool false, .bool false, .bool false, .bool false] 121)
    all_goals have hka := heapNew (w := w5) (o := (.cells #[.bool false, .bool false, .bool false, .bool false, .bool false] 121))
    all_goals generalize w5.alloc (.cells #[.bool false, .bool false, .bool false, .bool false, .bool false] 121) = w6 at hMa hka ⊢
    · simp (maxSteps := 1000000) only [GS, TT_eq, TTl, Nat.reduceAdd, Nat.reduceMul, Nat.reduceSub, Nat.reduceDiv, Nat.reduceMod, Nat.reducePow, Nat.reduceEqDiff, ↓reduceIte, reduceCtorEq, Int.reduceToNat, Int.reduceAdd, Int.reduceSub, Int.reduceMul]
      exact cellM (c5 7) hMa
    have hA6 := hMa.get hA5 (by simp)
    have hM06 := hM05.trans hMa (by simp)
    have c6 := fun o => cellOf (o := o) hA6
    have hnb : n < w5.heap.size := (Array.getElem?_eq_some_iff.1 hA5).1
    have hwb := hM05.size
    generalize w5.heap.size = b9 at hka hnb hwb ⊢
    simp (maxSteps := 1000000) only [GS, TT_eq, TTl, Nat.reduceAdd, Nat.reduceMul, Nat.reduceSub, Nat.reduceDiv, Nat.reduceMod, Nat.reducePow, Nat.reduceEqDiff, ↓reduceIte, reduceCtorEq, Int.reduceToNat, Int.reduceAdd, Int.reduceSub, Int.reduceMul]
    refine ht_lin rfl (hold_stop (s' := some 4) (hold_dops okT (rs := [.tmp 2]) rfl ?_))
    simp (maxSteps := 1000000) (disch := first | omega | (simp only [sizeAlloc, sizeDrew, sizeSet, sizePut] <;> omega) | fail) only [GS, TT_eq, TTl, Nat.reduceAdd, Nat.reduceMul, Nat.reduceSub, Nat.reduceDiv, Nat.reduceMod, Nat.reducePow, Nat.reduceEqDiff, ↓reduceIte, reduceCtorEq, Int.reduceToNat, Int.reduceAdd, Int.reduceSub, Int.reduceMul, c6]
    refine ⟨fok73, pStates_cps _ _ fun w7 hM7 => .inl ⟨_, rfl, cellM (c6 7) hM7, hold_dops okT (rs := [.tmp 2]) rfl ?_⟩⟩
    have hA7 := hM7.get hA6 (by simp)
    have hk7 := hM7.get hka (by simp)
    have hM07 := hM06.trans hM7 (by simp)
    have c7 := fun o => cellOf (o := o) hA7
    have d7 := fun o => cellOf (o := o) hk7
    have x7 := fun o => frozenOf (o := o) hk7
    unfold stsV
    simp (maxSteps := 1000000) (disch := first | omega | (simp only [sizeAlloc, sizeDrew, sizeSet, sizePut] <;> omega) | fail) only [GS, TT_eq, TTl, Nat.reduceAdd, Nat.reduceMul, Nat.reduceSub, Nat.reduceDiv, Nat.reduceMod, Nat.reducePow, Nat.reduceEqDiff, ↓reduceIte, reduceCtorEq, Int.reduceToNat, Int.reduceAdd, Int.reduceSub, Int.reduceMul, c7, d7, x7, chkO_s hst5.2, idx_sts hst5]
    have hB9 := box5 hk7 (x0 := .bool (sT st)) (x1 := .bool (sN st)) (x2 := .bool (sC st)) (x3 := .bool (sY st)) (x4 := .bool (sO st))
    have hA9 := setNe5 (p := b9) (x0 := .bool (sT st)) (x1 := .bool (sN st)) (x2 := .bool (sC st)) (x3 := .bool (sY st)) (x4 := .bool (sO st)) hA7 (by omega)
    have hM09 := modSet5 (p := b9) (x0 := .bool (sT st)) (x1 := .bool (sN st)) (x2 := .bool (sC st)) (x3 := .bool (sY st)) (x4 := .bool (sO st)) hM07 (.inr hwb)
    revert hB9 hA9 hM09
    generalize (((((w7.setCell ⟨b9, 0, none⟩ (.bool (sT st))).setCell ⟨b9, 1, none⟩ (.bool (sN st))).setCell ⟨b9, 2, none⟩ (.bool (sC st))).setCell ⟨b9, 3, none⟩ (.bool (sY st))).setCell ⟨b9, 4, none⟩ (.bool (sO st))) = w9
    intro hB9 hA9 hM09
    have c9 := fun o => cellOf (o := o) hA9
    refine hold_stop (s' := none) ?_
    refine hold_code okT (rs := [.tmp 2]) rfl ?_
    by_cases ht : tag = []
    · subst ht
      rw [tag_nil hst5] at hR
      cases hN : sN st
      · rw [hN] at hR hB9
        simp only [Bool.false_eq_true, if_false] at hR
        have d9 := fun o => cellOf (o := o) hB9
        simp (maxSteps := 1000000) (disch := first | omega | (simp only [sizeAlloc, sizeDrew, sizeSet, sizePut] <;> omega) | fail) only [GS, TT_eq, TTl, Nat.reduceAdd, Nat.reduceMul, Nat.reduceSub, Nat.reduceDiv, Nat.reduceMod, Nat.reducePow, Nat.reduceEqDiff, ↓reduceIte, reduceCtorEq, Int.reduceToNat, Int.reduceAdd, Int.reduceSub, Int.reduceMul, c9, d9, eq_self]
        exact hR _ hM09
      · rw [hN] at hR hB9
        simp only [if_true] at hR
        have d9 := fun o => cellOf (o := o) hB9
        simp (maxSteps := 1000000) (disch := first | omega | (simp only [sizeAlloc, sizeDrew, sizeSet, sizePut] <;> omega) | fail) only [GS, TT_eq, TTl, Nat.reduceAdd, Nat.reduceMul, Nat.reduceSub, Nat.reduceDiv, Nat.reduceMod, Nat.reducePow, Nat.reduceEqDiff, ↓reduceIte, reduceCtorEq, Int.reduceToNat, Int.reduceAdd, Int.reduceSub, Int.reduceMul, c9, d9, eq_self]
        exact hR _ hM09
    rw [tag_cons hst5 ht] at hR
    cases hT : sT st
    · rw [hT] at hR hB9
      simp only [Bool.false_and, Bool.false_eq_true, if_false] at hR
      have d9 := fun o => cellOf (o := o) hB9
      simp (maxSteps := 1000000) (disch := first | omega | (simp only [sizeAlloc, sizeDrew, sizeSet, sizePut] <;> omega) | fail) only [GS, TT_eq, TTl, Nat.reduceAdd, Nat.reduceMul, Nat.reduceSub, Nat.reduceDiv, Nat.reduceMod, Nat.reducePow, Nat.reduceEqDiff, ↓reduceIte, reduceCtorEq, Int.reduceToNat, Int.reduceAdd, Int.reduceSub, Int.reduceMul, c9, d9, ht]
      exact hR _ hM09
    rw [hT] at hR hB9
    simp only [Bool.true_and] at hR
    have d9 := fun o => cellOf (o := o) hB9
    simp (maxSteps := 1000000) (disch := first | omega | (simp only [sizeAlloc, sizeDrew, sizeSet, sizePut] <;> omega) | fail) only [GS, TT_eq, TTl, Nat.reduceAdd, Nat.reduceMul, Nat.reduceSub, Nat.reduceDiv, Nat.reduceMod, Nat.reducePow, Nat.reduceEqDiff, ↓reduceIte, reduceCtorEq, Int.reduceToNat, Int.reduceAdd, Int.reduceSub, Int.reduceMul, c9, d9, ht]
    refine ⟨fok12, hTT _ _ fun wA hMA => .inl ⟨_, rfl, hold_ops okT (rs := [.tmp 2]) rfl ?_⟩⟩
    by_cases hct : checkS tag = 0
    · rw [decide_eq_true hct] at hR
      simp only [if_true] at hR
      simp (maxSteps := 1000000) (disch := first | omega | (simp only [sizeAlloc, sizeDrew, sizeSet, sizePut] <;> omega) | fail) only [GS, TT_eq, TTl, Nat.reduceAdd, Nat.reduceMul, Nat.reduceSub, Nat.reduceDiv, Nat.reduceMod, Nat.reducePow, Nat.reduceEqDiff, ↓reduceIte, reduceCtorEq, Int.reduceToNat, Int.reduceAdd, Int.reduceSub, Int.reduceMul, hct]
      exact hR _ (hM09.trans hMA (by simp))
    · rw [decide_eq_false hct] at hR
      simp only [Bool.false_eq_true, if_false] at hR
      simp (maxSteps := 1000000) (disch := first | omega | (simp only [sizeAlloc, sizeDrew, sizeSet, sizePut] <;> omega) | fail) only [GS, TT_eq, TTl, Nat.reduceAdd, Nat.reduceMul, Nat.reduceSub, Nat.reduceDiv, Nat.reduceMod, Nat.reducePow, Nat.reduceEqDiff, ↓reduceIte, reduceCtorEq, Int.reduceToNat, Int.reduceAdd, Int.reduceSub, Int.reduceMul, hct]
      exact hR _ (hM09.trans hMA (by simp))
end Go.Proofs.Ytpcilobbohokcaa
