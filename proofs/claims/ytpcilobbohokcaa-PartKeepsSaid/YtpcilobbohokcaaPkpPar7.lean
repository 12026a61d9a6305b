/-
  part: Learn (walk).
-/
import Derived.Test.YtpcilobbohokcaaPkpPar6
set_option linter.unusedSimpArgs false
set_option linter.unusedVariables false
namespace Go.Proofs.Ytpcilobbohokcaa
open Go Go.Wk Go.RowKit
attribute [local irreducible] go Hold
open Go.Lib
theorem chkO_z (o : Option Value) : chkO ((0 : Int) ≤ 0 ∧ (0 : Int) < 6) o = o := by
  unfold chkO
  simp
/-- What a transaction at a member becomes by what it learns. -/
def toN (c : Bool) : Nat := cond c 4 5
def learnE (p : Pt) (c : Bool) : Except Int Pt := if mayPt p = true then (if p.st = toN c then .error 9 else if sO p.st = true ∨ (c = true ∧ sC p.st = false) then .error 8 else .ok { p with st := toN c }) else .error 2
set_option maxRecDepth 20000 in
set_option maxHeartbeats 32000000 in
theorem pLearn_cps (p : Pt) (ms : Value) (cm : Bool) (w : World) (h : PtIn w p ms) (R : Ending → World → Prop)
    (h1 : ∀ q cv w', learnE p cm = .ok q → w'.ownsRow w.heap.size 59 2 cv q.mbs.length (q.mbs.flatMap mbC) → Mod [] w w' → R (.returned (.tuple #[ptV q cv, .int .i64 0])) w')
    (h0 : ∀ c w', learnE p cm = .error c → Mod [] w w' → R (.returned (.tuple #[ptZ, .int .i64 c])) w') :
    Calls Try.prog 65 #[ptV p ms, .bool cm] w R := by
  generalize hE : learnE p cm = E at h1 h0
  unfold learnE toN at hE
  have hMd := fun w h => pMade_cps p ms w h
  have hin := fun w' hM => (h.mod hM : PtIn w' p ms)
  have hst := h.st
  have hse := h.sent
  have os : ms.oneCell' = true := by obtain ⟨a, c, e⟩ := h.rd.slice; rw [e]; rfl
  have hm15 : mayPt p = true → 1 ≤ p.st ∧ p.st ≤ 5 := fun h => by
    unfold mayPt at h
    simp only [Bool.and_eq_true, decide_eq_true_eq] at h
    exact h.1.1.1.1
  clear h
  unfold ptZ at hMd h0
  generalize mayPt p = B at *
  obtain ⟨⟨xa, xb, xc⟩, aud, mbs, org, body, st, tag, sent⟩ := p
  unfold ptV ptC at *
  simp only at hMd hE hst hse hm15 ⊢
  refine calls_go 4000 okT Try.func65 rfl (rs := [.cell 4 64, .tmp 5]) rfl Try.ntmps65 (args := [.agg #[.int .i64 xa, .int .i64 xb, .int .i64 xc, .int .i64 aud, ms, .int .i64 org, .string ⟨body.toArray⟩, .int .u8 st, .string ⟨tag.toArray⟩, .int .i64 sent], .bool cm]) ?_
  simp (maxSteps := 1000000) (disch := first | omega | (simp only [sizeAlloc, sizeDrew, sizeSet, sizePut] <;> omega) | fail) only [GS, TT_eq, TTl, Nat.reduceAdd, Nat.reduceMul, Nat.reduceSub, Nat.reduceDiv, Nat.reduceMod, Nat.reducePow, Nat.reduceEqDiff, ↓reduceIte, reduceCtorEq, Int.reduceToNat, Int.reduceAdd, Int.reduceSub, Int.reduceMul, os, cellsL_one os]
  generalize hW : ((w.alloc (.cells #[.int .i64 xa, .int .i64 xb, .int .i64 xc, .int .i64 aud, ms, .int .i64 org, .string ⟨body.toArray⟩, .int .u8 st, .string ⟨tag.toArray⟩, .int .i64 sent] 64)).alloc (.cells #[.int .i64 0, .int .i64 0, .int .i64 0, .int .i64 0, .slice none 0 0, .int .i64 0, .string ⟨#[]⟩, .int .u8 0, .string ⟨#[]⟩, .int .i64 0] 64)) = w1
  obtain ⟨hA, hB, hM0⟩ := two10 hW
  clear hW
  generalize hn : w.heap.size = n at *
  have hgeB : w.heap.size ≤ n + 1 := by omega
  have hgeA : w.heap.size ≤ n := by omega
  cases cm
  all_goals simp only [cond_true, cond_false] at hE
  · refine ⟨fok68, hMd _ (hin _ hM0) _ (fun cv w3 hB1 hown hM3 => .inl ⟨_, rfl, hold_stop (s' := some 2) (hold_ops okT (rs := [.cell 4 64, .tmp 5]) rfl ?_)⟩) (fun hB1 w3 hM3 => .inl ⟨_, rfl, hold_stop (s' := some 2) (hold_ops okT (rs := [.cell 4 64, .tmp 5]) rfl ?_)⟩)⟩
    rotate_left
    · subst hB1
      have hA3 := hM3.get hA (by simp)
      have hB3 := hM3.get hB (by simp)
      have hM03 := hM0.trans hM3 (by simp)
      have cA := fun o => cellOf (o := o) hA3
      have xA := fun o => frozenOf (o := o) hA3
      simp (maxSteps := 1000000) (disch := first | omega | (simp only [sizeAlloc, sizeDrew, sizeSet, sizePut] <;> omega) | fail) only [GS, TT_eq, TTl, Nat.reduceAdd, Nat.reduceMul, Nat.reduceSub, Nat.reduceDiv, Nat.reduceMod, Nat.reducePow, Nat.reduceEqDiff, ↓reduceIte, reduceCtorEq, Int.reduceToNat, Int.reduceAdd, Int.reduceSub, Int.reduceMul, cA, xA]
      have hA4 := st10 (p := n) (x0 := .int .i64 0) (x1 := .int .i64 0) (x2 := .int .i64 0) (x3 := .int .i64 0) (x4 := .slice none 0 0) (x5 := .int .i64 0) (x6 := .string ⟨#[]⟩) (x7 := .int .u8 0) (x8 := .string ⟨#[]⟩) (x9 := .int .i64 0) hA3
      have hB4 := setNe10 (p := n) (x0 := .int .i64 0) (x1 := .int .i64 0) (x2 := .int .i64 0) (x3 := .int .i64 0) (x4 := .slice none 0 0) (x5 := .int .i64 0) (x6 := .string ⟨#[]⟩) (x7 := .int .u8 0) (x8 := .string ⟨#[]⟩) (x9 := .int .i64 0) hB3 (by omega)
      have hM04 := modSet10 (p := n) (x0 := .int .i64 0) (x1 := .int .i64 0) (x2 := .int .i64 0) (x3 := .int .i64 0) (x4 := .slice none 0 0) (x5 := .int .i64 0) (x6 := .string ⟨#[]⟩) (x7 := .int .u8 0) (x8 := .string ⟨#[]⟩) (x9 := .int .i64 0) hM03 (.inr hgeA)
      revert hA4 hB4 hM04
      generalize ((((((((((w3.setCell ⟨n, 0, none⟩ (.int .i64 0)).setCell ⟨n, 1, none⟩ (.int .i64 0)).setCell ⟨n, 2, none⟩ (.int .i64 0)).setCell ⟨n, 3, none⟩ (.int .i64 0)).setCell ⟨n, 4, none⟩ (.slice none 0 0)).setCell ⟨n, 5, none⟩ (.int .i64 0)).setCell ⟨n, 6, none⟩ (.string ⟨#[]⟩)).setCell ⟨n, 7, none⟩ (.int .u8 0)).setCell ⟨n, 8, none⟩ (.string ⟨#[]⟩)).setCell ⟨n, 9, none⟩ (.int .i64 0)) = w4
      intro hA4 hB4 hM04
      refine hold_stop (s' := none) ?_
      refine hold_code okT (rs := [.cell 4 64, .tmp 5]) rfl ?_
      simp only [Bool.false_eq_true, if_false] at hE
      have c4 := fun o => cellOf (o := o) hA4
      simp (maxSteps := 1000000) (disch := first | omega | (simp only [sizeAlloc, sizeDrew, sizeSet, sizePut] <;> omega) | fail) only [GS, TT_eq, TTl, Nat.reduceAdd, Nat.reduceMul, Nat.reduceSub, Nat.reduceDiv, Nat.reduceMod, Nat.reducePow, Nat.reduceEqDiff, ↓reduceIte, reduceCtorEq, Int.reduceToNat, Int.reduceAdd, Int.reduceSub, Int.reduceMul, c4]
      refine hold_tree okT [0, 0, 2, 7, 0, 31] (.qop 1 (.qop 2 (.eff 0 (.lin [3, 4, 5]) (.eff 4 (.lin [0, 3, 5]) .stop)))) (by kernel_rfl) ?_
      have hM45 := (Mod.refl [] w4).drewN 1
      generalize w4.drewN 1 = w5 at *
      have hA5 := hM45.get hA4 (by simp)
      have hB5 := hM45.get hB4 (by simp)
      have hM05 := hM04.trans hM45 (by simp)
      have c5 := fun o => cellOf (o := o) hA5
      have hnb : n + 1 < w5.heap.size := (Array.getElem?_eq_some_iff.1 hB5).1
      have hwb := hM05.size
      refine ht_val okT rfl rfl (v := .pointer (some ⟨n, 7, none⟩)) (by simp (maxSteps := 1000000) (disch := first | omega | (simp only [sizeAlloc, sizeDrew, sizeSet, sizePut] <;> omega) | fail) only [GS, TT_eq, TTl, Nat.reduceAdd, Nat.reduceMul, Nat.reduceSub, Nat.reduceDiv, Nat.reduceMod, Nat.reducePow, Nat.reduceEqDiff, ↓reduceIte, reduceCtorEq, Int.reduceToNat, Int.reduceAdd, Int.reduceSub, Int.reduceMul]) ?_
      refine ht_val okT rfl rfl (v := .int .u8 0) (by simp (maxSteps := 1000000) (disch := first | omega | (simp only [sizeAlloc, sizeDrew, sizeSet, sizePut] <;> omega) | fail) only [GS, TT_eq, TTl, Nat.reduceAdd, Nat.reduceMul, Nat.reduceSub, Nat.reduceDiv, Nat.reduceMod, Nat.reducePow, Nat.reduceEqDiff, ↓reduceIte, reduceCtorEq, Int.reduceToNat, Int.reduceAdd, Int.reduceSub, Int.reduceMul, c5]) ?_
      refine ht_call okT rfl rfl ?_ ?_
      · simp (maxSteps := 1000000) (disch := first | omega | (simp only [sizeAlloc, sizeDrew, sizeSet, sizePut] <;> omega) | fail) only [GS, TT_eq, TTl, Nat.reduceAdd, Nat.reduceMul, Nat.reduceSub, Nat.reduceDiv, Nat.reduceMod, Nat.reducePow, Nat.reduceEqDiff, ↓reduceIte, reduceCtorEq, Int.reduceToNat, Int.reduceAdd, Int.reduceSub, Int.reduceMul]
        refine ⟨fok73, pStates_cps _ _ fun w6 hM6 => .inl ⟨_, rfl, cellM (c5 7) hM6, ?_⟩⟩
        have hA6 := hM6.get hA5 (by simp)
        have hB6 := hM6.get hB5 (by simp)
        have hM06 := hM05.trans hM6 (by simp)
        have hs6 := hM6.size
        have c6 := fun o => cellOf (o := o) hA6
        refine ht_lin rfl (hold_stop (s' := some 6) (hold_dops okT (rs := [.cell 4 64, .tmp 5]) rfl ?_))
        unfold stsV
        simp (maxSteps := 1000000) (disch := first | omega | (simp only [sizeAlloc, sizeDrew, sizeSet, sizePut] <;> omega) | fail) only [GS, TT_eq, TTl, Nat.reduceAdd, Nat.reduceMul, Nat.reduceSub, Nat.reduceDiv, Nat.reduceMod, Nat.reducePow, Nat.reduceEqDiff, ↓reduceIte, reduceCtorEq, Int.reduceToNat, Int.reduceAdd, Int.reduceSub, Int.reduceMul, c6, chkO_z]
        have hMa := (Mod.refl [] w6).alloc (.cells #[.bool false, .bool false, .bool false, .bool false, .bool false] 121)
        first | refine ⟨cellM (c6 7) hMa, ?_⟩ | skip
        have hk := heapNew (w := w6) (o := .cells #[.bool false, .bool false, .bool false, .bool false, .bool false] 121)
        have hA7 := heapAlloc (o' := .cells #[.bool false, .bool false, .bool false, .bool false, .bool false] 121) hA6
        have hB7 := heapAlloc (o' := .cells #[.bool false, .bool false, .bool false, .bool false, .bool false] 121) hB6
        have hM07 := hM06.alloc (.cells #[.bool false, .bool false, .bool false, .bool false, .bool false] 121)
        have hD9 := box5 hk (x0 := .bool false) (x1 := .bool false) (x2 := .bool false) (x3 := .bool false) (x4 := .bool false)
        have hA9 := setNe5 (p := w6.heap.size) (x0 := .bool false) (x1 := .bool false) (x2 := .bool false) (x3 := .bool false) (x4 := .bool false) hA7 (by omega)
        have hB9 := setNe5 (p := w6.heap.size) (x0 := .bool false) (x1 := .bool false) (x2 := .bool false) (x3 := .bool false) (x4 := .bool false) hB7 (by omega)
        have hM09 := modSet5 (p := w6.heap.size) (x0 := .bool false) (x1 := .bool false) (x2 := .bool false) (x3 := .bool false) (x4 := .bool false) hM07 (.inr (by omega))
        clear hk hA7 hB7 hM07 hMa
        revert hD9 hA9 hB9 hM09 
        generalize ((((((w6.alloc (.cells #[.bool false, .bool false, .bool false, .bool false, .bool false] 121)).setCell ⟨w6.heap.size, 0, none⟩ (.bool false)).setCell ⟨w6.heap.size, 1, none⟩ (.bool false)).setCell ⟨w6.heap.size, 2, none⟩ (.bool false)).setCell ⟨w6.heap.size, 3, none⟩ (.bool false)).setCell ⟨w6.heap.size, 4, none⟩ (.bool false)) = w9
        generalize w6.heap.size = b9
        intro hD9 hA9 hB9 hM09 
        have d9 := fun o => cellOf (o := o) hD9
        have c9 := fun o => cellOf (o := o) hA9
        refine hold_stop (s' := none) ?_
        refine hold_code okT (rs := [.cell 4 64, .tmp 5]) rfl ?_
        have cB := fun o => cellOf (o := o) hB9
        have xB := fun o => frozenOf (o := o) hB9
        simp (maxSteps := 1000000) (disch := first | omega | (simp only [sizeAlloc, sizeDrew, sizeSet, sizePut] <;> omega) | fail) only [GS, TT_eq, TTl, Nat.reduceAdd, Nat.reduceMul, Nat.reduceSub, Nat.reduceDiv, Nat.reduceMod, Nat.reducePow, Nat.reduceEqDiff, ↓reduceIte, reduceCtorEq, Int.reduceToNat, Int.reduceAdd, Int.reduceSub, Int.reduceMul, cB, xB]
        refine load10 (st10 hB9) ?_
        exact h0 2 _ hE.symm (modSet10 hM09 (.inr hgeB))
      · refine ht_eff okT rfl rfl (v := .pointer (some ⟨w5.heap.size, 0, none⟩)) (w' := w5.alloc (.cells #[.bool false, .bool false, .bool false, .bool false, .bool false] 121)) (by simp (maxSteps := 1000000) only [GS, TT_eq, TTl, Nat.reduceAdd, Nat.reduceMul, Nat.reduceSub, Nat.reduceDiv, Nat.reduceMod, Nat.reducePow, Nat.reduceEqDiff, ↓reduceIte, reduceCtorEq, Int.reduceToNat, Int.reduceAdd, Int.reduceSub, Int.reduceMul]) ?_ ?_ ht_stop
        all_goals have hMa := (Mod.refl [] w5).alloc (.cells #[.bool false, .bool false, .bool false, .bool false, .bool false] 121)
        all_goals have hka := heapNew (w := w5) (o := (.cells #[.bool false, .bool false, .bool false, .bool false, .bool false] 121))
        all_goals generalize w5.alloc (.cells #[.bool false, .bool false, .bool false, .bool false, .bool false] 121) = w6 at hMa hka ⊢
        · simp (maxSteps := 1000000) only [GS, TT_eq, TTl, Nat.reduceAdd, Nat.reduceMul, Nat.reduceSub, Nat.reduceDiv, Nat.reduceMod, Nat.reducePow, Nat.reduceEqDiff, ↓reduceIte, reduceCtorEq, Int.reduceToNat, Int.reduceAdd, Int.reduceSub, Int.reduceMul]
          exact cellM (c5 7) hMa
        have hA6 := hMa.get hA5 (by simp)
        have hB6 := hMa.get hB5 (by simp)
        have hM06 := hM05.trans hMa (by simp)
        have c6 := fun o => cellOf (o := o) hA6
        generalize w5.heap.size = b9 at hka hnb hwb ⊢
        simp (maxSteps := 1000000) only [GS, TT_eq, TTl, Nat.reduceAdd, Nat.reduceMul, Nat.reduceSub, Nat.reduceDiv, Nat.reduceMod, Nat.reducePow, Nat.reduceEqDiff, ↓reduceIte, reduceCtorEq, Int.reduceToNat, Int.reduceAdd, Int.reduceSub, Int.reduceMul]
        refine ht_lin rfl (hold_stop (s' := some 6) (hold_dops okT (rs := [.cell 4 64, .tmp 5]) rfl ?_))
        simp (maxSteps := 1000000) (disch := first | omega | (simp only [sizeAlloc, sizeDrew, sizeSet, sizePut] <;> omega) | fail) only [GS, TT_eq, TTl, Nat.reduceAdd, Nat.reduceMul, Nat.reduceSub, Nat.reduceDiv, Nat.reduceMod, Nat.reducePow, Nat.reduceEqDiff, ↓reduceIte, reduceCtorEq, Int.reduceToNat, Int.reduceAdd, Int.reduceSub, Int.reduceMul, c6]
        refine ⟨fok73, pStates_cps _ _ fun w7 hM7 => .inl ⟨_, rfl, cellM (c6 7) hM7, hold_dops okT (rs := [.cell 4 64, .tmp 5]) rfl ?_⟩⟩
        have hA7 := hM7.get hA6 (by simp)
        have hB7 := hM7.get hB6 (by simp)
        have hk7 := hM7.get hka (by simp)
        have hM07 := hM06.trans hM7 (by simp)
        have c7 := fun o => cellOf (o := o) hA7
        have d7 := fun o => cellOf (o := o) hk7
        have x7 := fun o => frozenOf (o := o) hk7
        unfold stsV
        simp (maxSteps := 1000000) (disch := first | omega | (simp only [sizeAlloc, sizeDrew, sizeSet, sizePut] <;> omega) | fail) only [GS, TT_eq, TTl, Nat.reduceAdd, Nat.reduceMul, Nat.reduceSub, Nat.reduceDiv, Nat.reduceMod, Nat.reducePow, Nat.reduceEqDiff, ↓reduceIte, reduceCtorEq, Int.reduceToNat, Int.reduceAdd, Int.reduceSub, Int.reduceMul, c7, d7, x7, chkO_z]
        have hD9 := box5 hk7 (x0 := .bool false) (x1 := .bool false) (x2 := .bool false) (x3 := .bool false) (x4 := .bool false)
        have hA9 := setNe5 (p := b9) (x0 := .bool false) (x1 := .bool false) (x2 := .bool false) (x3 := .bool false) (x4 := .bool false) hA7 (by omega)
        have hB9 := setNe5 (p := b9) (x0 := .bool false) (x1 := .bool false) (x2 := .bool false) (x3 := .bool false) (x4 := .bool false) hB7 (by omega)
        have hM09 := modSet5 (p := b9) (x0 := .bool false) (x1 := .bool false) (x2 := .bool false) (x3 := .bool false) (x4 := .bool false) hM07 (.inr hwb)
        revert hD9 hA9 hB9 hM09 
        generalize (((((w7.setCell ⟨b9, 0, none⟩ (.bool false)).setCell ⟨b9, 1, none⟩ (.bool false)).setCell ⟨b9, 2, none⟩ (.bool false)).setCell ⟨b9, 3, none⟩ (.bool false)).setCell ⟨b9, 4, none⟩ (.bool false)) = w9
        intro hD9 hA9 hB9 hM09 
        have d9 := fun o => cellOf (o := o) hD9
        have c9 := fun o => cellOf (o := o) hA9
        refine hold_stop (s' := none) ?_
        refine hold_code okT (rs := [.cell 4 64, .tmp 5]) rfl ?_
        have cB := fun o => cellOf (o := o) hB9
        have xB := fun o => frozenOf (o := o) hB9
        simp (maxSteps := 1000000) (disch := first | omega | (simp only [sizeAlloc, sizeDrew, sizeSet, sizePut] <;> omega) | fail) only [GS, TT_eq, TTl, Nat.reduceAdd, Nat.reduceMul, Nat.reduceSub, Nat.reduceDiv, Nat.reduceMod, Nat.reducePow, Nat.reduceEqDiff, ↓reduceIte, reduceCtorEq, Int.reduceToNat, Int.reduceAdd, Int.reduceSub, Int.reduceMul, cB, xB]
        refine load10 (st10 hB9) ?_
        exact h0 2 _ hE.symm (modSet10 hM09 (.inr hgeB))
    subst hB1
    have hA3 := hM3.get hA (by simp)
    have hB3 := hM3.get hB (by simp)
    have hM03 := hM0.trans hM3 (by simp)
    have hz : n + 1 < w1.heap.size := (Array.getElem?_eq_some_iff.1 hB).1
    have oc := ownsRow_one hown
    have cA := fun o => cellOf (o := o) hA3
    have xA := fun o => frozenOf (o := o) hA3
    simp (maxSteps := 1000000) (disch := first | omega | (simp only [sizeAlloc, sizeDrew, sizeSet, sizePut] <;> omega) | fail) only [GS, TT_eq, TTl, Nat.reduceAdd, Nat.reduceMul, Nat.reduceSub, Nat.reduceDiv, Nat.reduceMod, Nat.reducePow, Nat.reduceEqDiff, ↓reduceIte, reduceCtorEq, Int.reduceToNat, Int.reduceAdd, Int.reduceSub, Int.reduceMul, cA, xA, oc, cellsL_one oc]
    have hA4 := st10 (p := n) (x0 := .int .i64 xa) (x1 := .int .i64 xb) (x2 := .int .i64 xc) (x3 := .int .i64 aud) (x4 := cv) (x5 := .int .i64 org) (x6 := .string ⟨body.toArray⟩) (x7 := .int .u8 st) (x8 := .string ⟨tag.toArray⟩) (x9 := .int .i64 sent) hA3
    have hB4 := setNe10 (p := n) (x0 := .int .i64 xa) (x1 := .int .i64 xb) (x2 := .int .i64 xc) (x3 := .int .i64 aud) (x4 := cv) (x5 := .int .i64 org) (x6 := .string ⟨body.toArray⟩) (x7 := .int .u8 st) (x8 := .string ⟨tag.toArray⟩) (x9 := .int .i64 sent) hB3 (by omega)
    have hM04 := modSet10 (p := n) (x0 := .int .i64 xa) (x1 := .int .i64 xb) (x2 := .int .i64 xc) (x3 := .int .i64 aud) (x4 := cv) (x5 := .int .i64 org) (x6 := .string ⟨body.toArray⟩) (x7 := .int .u8 st) (x8 := .string ⟨tag.toArray⟩) (x9 := .int .i64 sent) hM03 (.inr hgeA)
    have hown4 := ownsRow_mod hown (modSet10 (F := [n]) (p := n) (x0 := .int .i64 xa) (x1 := .int .i64 xb) (x2 := .int .i64 xc) (x3 := .int .i64 aud) (x4 := cv) (x5 := .int .i64 org) (x6 := .string ⟨body.toArray⟩) (x7 := .int .u8 st) (x8 := .string ⟨tag.toArray⟩) (x9 := .int .i64 sent) (Mod.refl [n] w3) (.inl (by simp))) (by simp; omega)
    revert hA4 hB4 hM04 hown4
    generalize ((((((((((w3.setCell ⟨n, 0, none⟩ (.int .i64 xa)).setCell ⟨n, 1, none⟩ (.int .i64 xb)).setCell ⟨n, 2, none⟩ (.int .i64 xc)).setCell ⟨n, 3, none⟩ (.int .i64 aud)).setCell ⟨n, 4, none⟩ (cv)).setCell ⟨n, 5, none⟩ (.int .i64 org)).setCell ⟨n, 6, none⟩ (.string ⟨body.toArray⟩)).setCell ⟨n, 7, none⟩ (.int .u8 st)).setCell ⟨n, 8, none⟩ (.string ⟨tag.toArray⟩)).setCell ⟨n, 9, none⟩ (.int .i64 sent)) = w4
    intro hA4 hB4 hM04 hown4
    have hs15 := hm15 rfl
    refine hold_stop (s' := none) ?_
    refine hold_code okT (rs := [.cell 4 64, .tmp 5]) rfl ?_
    simp only [if_true] at hE
    have c4 := fun o => cellOf (o := o) hA4
    simp (maxSteps := 1000000) (disch := first | omega | (simp only [sizeAlloc, sizeDrew, sizeSet, sizePut] <;> omega) | fail) only [GS, TT_eq, TTl, Nat.reduceAdd, Nat.reduceMul, Nat.reduceSub, Nat.reduceDiv, Nat.reduceMod, Nat.reducePow, Nat.reduceEqDiff, ↓reduceIte, reduceCtorEq, Int.reduceToNat, Int.reduceAdd, Int.reduceSub, Int.reduceMul, c4]
    refine hold_tree okT [0, 0, 2, 7, 0, 31] (.qop 1 (.qop 2 (.eff 0 (.lin [3, 4, 5]) (.eff 4 (.lin [0, 3, 5]) .stop)))) (by kernel_rfl) ?_
    have hM45 := (Mod.refl [] w4).drewN 1
    generalize w4.drewN 1 = w5 at *
    have hA5 := hM45.get hA4 (by simp)
    have hB5 := hM45.get hB4 (by simp)
    have hM05 := hM04.trans hM45 (by simp)
    have hown5 := ownsRow_mod hown4 hM45 (by simp)
    have c5 := fun o => cellOf (o := o) hA5
    have hnb : n + 1 < w5.heap.size := (Array.getElem?_eq_some_iff.1 hB5).1
    have hwb := hM05.size
    refine ht_val okT rfl rfl (v := .pointer (some ⟨n, 7, none⟩)) (by simp (maxSteps := 1000000) (disch := first | omega | (simp only [sizeAlloc, sizeDrew, sizeSet, sizePut] <;> omega) | fail) only [GS, TT_eq, TTl, Nat.reduceAdd, Nat.reduceMul, Nat.reduceSub, Nat.reduceDiv, Nat.reduceMod, Nat.reducePow, Nat.reduceEqDiff, ↓reduceIte, reduceCtorEq, Int.reduceToNat, Int.reduceAdd, Int.reduceSub, Int.reduceMul]) ?_
    refine ht_val okT rfl rfl (v := .int .u8 st) (by simp (maxSteps := 1000000) (disch := first | omega | (simp only [sizeAlloc, sizeDrew, sizeSet, sizePut] <;> omega) | fail) only [GS, TT_eq, TTl, Nat.reduceAdd, Nat.reduceMul, Nat.reduceSub, Nat.reduceDiv, Nat.reduceMod, Nat.reducePow, Nat.reduceEqDiff, ↓reduceIte, reduceCtorEq, Int.reduceToNat, Int.reduceAdd, Int.reduceSub, Int.reduceMul, c5]) ?_
    refine ht_call okT rfl rfl ?_ ?_
    · simp (maxSteps := 1000000) (disch := first | omega | (simp only [sizeAlloc, sizeDrew, sizeSet, sizePut] <;> omega) | fail) only [GS, TT_eq, TTl, Nat.reduceAdd, Nat.reduceMul, Nat.reduceSub, Nat.reduceDiv, Nat.reduceMod, Nat.reducePow, Nat.reduceEqDiff, ↓reduceIte, reduceCtorEq, Int.reduceToNat, Int.reduceAdd, Int.reduceSub, Int.reduceMul]
      refine ⟨fok73, pStates_cps _ _ fun w6 hM6 => .inl ⟨_, rfl, cellM (c5 7) hM6, ?_⟩⟩
      have hA6 := hM6.get hA5 (by simp)
      have hB6 := hM6.get hB5 (by simp)
      have hM06 := hM05.trans hM6 (by simp)
      have hs6 := hM6.size
      have hown6 := ownsRow_mod hown5 hM6 (by simp)
      have c6 := fun o => cellOf (o := o) hA6
      refine ht_lin rfl (hold_stop (s' := some 6) (hold_dops okT (rs := [.cell 4 64, .tmp 5]) rfl ?_))
      unfold stsV
      simp (maxSteps := 1000000) (disch := first | omega | (simp only [sizeAlloc, sizeDrew, sizeSet, sizePut] <;> omega) | fail) only [GS, TT_eq, TTl, Nat.reduceAdd, Nat.reduceMul, Nat.reduceSub, Nat.reduceDiv, Nat.reduceMod, Nat.reducePow, Nat.reduceEqDiff, ↓reduceIte, reduceCtorEq, Int.reduceToNat, Int.reduceAdd, Int.reduceSub, Int.reduceMul, c6, chkO_s (s := st) hs15.2, idx_st0 (s := st) hs15.2]
      have hMa := (Mod.refl [] w6).alloc (.cells #[.bool false, .bool false, .bool false, .bool false, .bool false] 121)
      first | refine ⟨cellM (c6 7) hMa, ?_⟩ | skip
      have hk := heapNew (w := w6) (o := .cells #[.bool false, .bool false, .bool false, .bool false, .bool false] 121)
      have hA7 := heapAlloc (o' := .cells #[.bool false, .bool false, .bool false, .bool false, .bool false] 121) hA6
      have hB7 := heapAlloc (o' := .cells #[.bool false, .bool false, .bool false, .bool false, .bool false] 121) hB6
      have hM07 := hM06.alloc (.cells #[.bool false, .bool false, .bool false, .bool false, .bool false] 121)
      have hown7 := hown6.alloc (.cells #[.bool false, .bool false, .bool false, .bool false, .bool false] 121)
      have hD9 := box5 hk (x0 := .bool (sT st)) (x1 := .bool (sN st)) (x2 := .bool (sC st)) (x3 := .bool (sY st)) (x4 := .bool (sO st))
      have hA9 := setNe5 (p := w6.heap.size) (x0 := .bool (sT st)) (x1 := .bool (sN st)) (x2 := .bool (sC st)) (x3 := .bool (sY st)) (x4 := .bool (sO st)) hA7 (by omega)
      have hB9 := setNe5 (p := w6.heap.size) (x0 := .bool (sT st)) (x1 := .bool (sN st)) (x2 := .bool (sC st)) (x3 := .bool (sY st)) (x4 := .bool (sO st)) hB7 (by omega)
      have hM09 := modSet5 (p := w6.heap.size) (x0 := .bool (sT st)) (x1 := .bool (sN st)) (x2 := .bool (sC st)) (x3 := .bool (sY st)) (x4 := .bool (sO st)) hM07 (.inr (by omega))
      have hown9 := ownsRow_mod' hown7 (modSet5 (F := [w6.heap.size]) (p := w6.heap.size) (x0 := .bool (sT st)) (x1 := .bool (sN st)) (x2 := .bool (sC st)) (x3 := .bool (sY st)) (x4 := .bool (sO st)) (Mod.refl [w6.heap.size] _) (.inl (by simp))) (fun g hg => by have := (hown6.lt g hg).2; simp; omega)
      clear hk hA7 hB7 hM07 hMa
      revert hD9 hA9 hB9 hM09 hown9
      generalize ((((((w6.alloc (.cells #[.bool false, .bool false, .bool false, .bool false, .bool false] 121)).setCell ⟨w6.heap.size, 0, none⟩ (.bool (sT st))).setCell ⟨w6.heap.size, 1, none⟩ (.bool (sN st))).setCell ⟨w6.heap.size, 2, none⟩ (.bool (sC st))).setCell ⟨w6.heap.size, 3, none⟩ (.bool (sY st))).setCell ⟨w6.heap.size, 4, none⟩ (.bool (sO st))) = w9
      generalize w6.heap.size = b9
      intro hD9 hA9 hB9 hM09 hown9
      have d9 := fun o => cellOf (o := o) hD9
      have c9 := fun o => cellOf (o := o) hA9
      refine hold_stop (s' := some 14) ?_
      refine hold_code okT (rs := [.cell 4 64, .tmp 5]) rfl ?_
      by_cases hto : st = 5
      · rw [if_pos hto] at hE
        have cB := fun o => cellOf (o := o) hB9
        have xB := fun o => frozenOf (o := o) hB9
        simp (maxSteps := 1000000) (disch := first | omega | (simp only [sizeAlloc, sizeDrew, sizeSet, sizePut] <;> omega) | fail) only [GS, TT_eq, TTl, Nat.reduceAdd, Nat.reduceMul, Nat.reduceSub, Nat.reduceDiv, Nat.reduceMod, Nat.reducePow, Nat.reduceEqDiff, ↓reduceIte, reduceCtorEq, Int.reduceToNat, Int.reduceAdd, Int.reduceSub, Int.reduceMul, cB, xB, c9, (decide_eq_true (show (st : Int) = 5 by omega))]
        refine load10 (st10 hB9) ?_
        exact h0 9 _ hE.symm (modSet10 hM09 (.inr hgeB))
      rw [if_neg hto] at hE
      cases hO : sO st
      rotate_left
      · rw [hO] at hE
        rw [if_pos (.inl rfl)] at hE
        have d9 : ∀ o, w9.cell? ⟨b9, o, none⟩ = #[.bool (sT st), .bool (sN st), .bool (sC st), .bool (sY st), .bool true][o]? := fun o => by rw [d9 o, hO]
        have cB := fun o => cellOf (o := o) hB9
        have xB := fun o => frozenOf (o := o) hB9
        simp (maxSteps := 1000000) (disch := first | omega | (simp only [sizeAlloc, sizeDrew, sizeSet, sizePut] <;> omega) | fail) only [GS, TT_eq, TTl, Nat.reduceAdd, Nat.reduceMul, Nat.reduceSub, Nat.reduceDiv, Nat.reduceMod, Nat.reducePow, Nat.reduceEqDiff, ↓reduceIte, reduceCtorEq, Int.reduceToNat, Int.reduceAdd, Int.reduceSub, Int.reduceMul, cB, xB, c9, d9, (decide_eq_false (show ¬ (st : Int) = 5 by omega))]
        refine load10 (st10 hB9) ?_
        exact h0 8 _ hE.symm (modSet10 hM09 (.inr hgeB))
      rw [hO] at hE
      have d9 : ∀ o, w9.cell? ⟨b9, o, none⟩ = #[.bool (sT st), .bool (sN st), .bool (sC st), .bool (sY st), .bool false][o]? := fun o => by rw [d9 o, hO]
      rw [if_neg (fun h => by simp at h)] at hE
      have xA := fun o => frozenOf (o := o) hA9
      simp (maxSteps := 1000000) (disch := first | omega | (simp only [sizeAlloc, sizeDrew, sizeSet, sizePut] <;> omega) | fail) only [GS, TT_eq, TTl, Nat.reduceAdd, Nat.reduceMul, Nat.reduceSub, Nat.reduceDiv, Nat.reduceMod, Nat.reducePow, Nat.reduceEqDiff, ↓reduceIte, reduceCtorEq, Int.reduceToNat, Int.reduceAdd, Int.reduceSub, Int.reduceMul, c9, d9, xA, (decide_eq_false (show ¬ (st : Int) = 5 by omega))]
      have hAE : (w9.setCell ⟨n, 7, none⟩ (.int .u8 5)).heap[n]? = some (.cells #[.int .i64 xa, .int .i64 xb, .int .i64 xc, .int .i64 aud, cv, .int .i64 org, .string ⟨body.toArray⟩, .int .u8 5, .string ⟨tag.toArray⟩, .int .i64 sent] 64 (0, 0)) := by rw [heapSet hA9]; rfl
      have hBE := heapSetNe (b := n) (j := 7) (u := .int .u8 5) hB9 (by omega)
      have hME := hM09.set (p := ⟨n, 7, none⟩) (.inr hgeA) (.int .u8 5)
      have hownE := ownsRow_mod hown9 ((Mod.refl [n] w9).set (p := ⟨n, 7, none⟩) (.inl (by simp)) (.int .u8 5)) (by simp; omega)
      revert hAE hBE hME hownE
      generalize w9.setCell ⟨n, 7, none⟩ (.int .u8 5) = wE
      intro hAE hBE hME hownE
      refine hold_stop (s' := none) ?_
      refine hold_code okT (rs := [.cell 4 64, .tmp 5]) rfl ?_
      have cA := fun o => cellOf (o := o) hAE
      have cB := fun o => cellOf (o := o) hBE
      have xB := fun o => frozenOf (o := o) hBE
      simp (maxSteps := 1000000) (disch := first | omega | (simp only [sizeAlloc, sizeDrew, sizeSet, sizePut] <;> omega) | fail) only [GS, TT_eq, TTl, Nat.reduceAdd, Nat.reduceMul, Nat.reduceSub, Nat.reduceDiv, Nat.reduceMod, Nat.reducePow, Nat.reduceEqDiff, ↓reduceIte, reduceCtorEq, Int.reduceToNat, Int.reduceAdd, Int.reduceSub, Int.reduceMul, cA, cB, xB, oc, cellsL_one oc]
      refine load10 (st10 hBE) ?_
      refine h1 _ cv _ hE.symm ?_ (modSet10 hME (.inr hgeB))
      exact ownsRow_base (ownsRow_mod (S := [n + 1]) hownE (modSet10 (F := [n + 1]) (p := n + 1) (x0 := .int .i64 xa) (x1 := .int .i64 xb) (x2 := .int .i64 xc) (x3 := .int .i64 aud) (x4 := cv) (x5 := .int .i64 org) (x6 := .string ⟨body.toArray⟩) (x7 := .int .u8 5) (x8 := .string ⟨tag.toArray⟩) (x9 := .int .i64 sent) (Mod.refl [n + 1] wE) (.inl (by simp))) (by simp; omega)) (by omega)
    · refine ht_eff okT rfl rfl (v := .pointer (some ⟨w5.heap.size, 0, none⟩)) (w' := w5.alloc (.cells #[.bool false, .bool false, .bool false, .bool false, .bool false] 121)) (by simp (maxSteps := 1000000) only [GS, TT_eq, TTl, Nat.reduceAdd, Nat.reduceMul, Nat.reduceSub, Nat.reduceDiv, Nat.reduceMod, Nat.reducePow, Nat.reduceEqDiff, ↓reduceIte, reduceCtorEq, Int.reduceToNat, Int.reduceAdd, Int.reduceSub, Int.reduceMul]) ?_ ?_ ht_stop
      all_goals have hMa := (Mod.refl [] w5).alloc (.cells #[.bool false, .bool false, .bool false, .bool false, .bool false] 121)
      all_goals have hka := heapNew (w := w5) (o := (.cells #[.bool false, .bool false, .bool false, .bool false, .bool false] 121))
      all_goals generalize w5.alloc (.cells #[.bool false, .bool false, .bool false, .bool false, .bool false] 121) = w6 at hMa hka ⊢
      · simp (maxSteps := 1000000) only [GS, TT_eq, TTl, Nat.reduceAdd, Nat.reduceMul, Nat.reduceSub, Nat.reduceDiv, Nat.reduceMod, Nat.reducePow, Nat.reduceEqDiff, ↓reduceIte, reduceCtorEq, Int.reduceToNat, Int.reduceAdd, Int.reduceSub, Int.reduceMul]
        exact cellM (c5 7) hMa
      have hA6 := hMa.get hA5 (by simp)
      have hB6 := hMa.get hB5 (by simp)
      have hM06 := hM05.trans hMa (by simp)
      have c6 := fun o => cellOf (o := o) hA6
      have hown6 := ownsRow_mod hown5 hMa (by simp)
      have hlt5 : ∀ g, cv.ownBlock = some g → g < w5.heap.size := fun g hg => (hown5.lt g hg).2
      generalize w5.heap.size = b9 at hka hnb hwb hlt5 ⊢
      simp (maxSteps := 1000000) only [GS, TT_eq, TTl, Nat.reduceAdd, Nat.reduceMul, Nat.reduceSub, Nat.reduceDiv, Nat.reduceMod, Nat.reducePow, Nat.reduceEqDiff, ↓reduceIte, reduceCtorEq, Int.reduceToNat, Int.reduceAdd, Int.reduceSub, Int.reduceMul]
      refine ht_lin rfl (hold_stop (s' := some 6) (hold_dops okT (rs := [.cell 4 64, .tmp 5]) rfl ?_))
      simp (maxSteps := 1000000) (disch := first | omega | (simp only [sizeAlloc, sizeDrew, sizeSet, sizePut] <;> omega) | fail) only [GS, TT_eq, TTl, Nat.reduceAdd, Nat.reduceMul, Nat.reduceSub, Nat.reduceDiv, Nat.reduceMod, Nat.reducePow, Nat.reduceEqDiff, ↓reduceIte, reduceCtorEq, Int.reduceToNat, Int.reduceAdd, Int.reduceSub, Int.reduceMul, c6]
      refine ⟨fok73, pStates_cps _ _ fun w7 hM7 => .inl ⟨_, rfl, cellM (c6 7) hM7, hold_dops okT (rs := [.cell 4 64, .tmp 5]) rfl ?_⟩⟩
      have hA7 := hM7.get hA6 (by simp)
      have hB7 := hM7.get hB6 (by simp)
      have hk7 := hM7.get hka (by simp)
      have hM07 := hM06.trans hM7 (by simp)
      have hown7 := ownsRow_mod hown6 hM7 (by simp)
      have c7 := fun o => cellOf (o := o) hA7
      have d7 := fun o => cellOf (o := o) hk7
      have x7 := fun o => frozenOf (o := o) hk7
      unfold stsV
      simp (maxSteps := 1000000) (disch := first | omega | (simp only [sizeAlloc, sizeDrew, sizeSet, sizePut] <;> omega) | fail) only [GS, TT_eq, TTl, Nat.reduceAdd, Nat.reduceMul, Nat.reduceSub, Nat.reduceDiv, Nat.reduceMod, Nat.reducePow, Nat.reduceEqDiff, ↓reduceIte, reduceCtorEq, Int.reduceToNat, Int.reduceAdd, Int.reduceSub, Int.reduceMul, c7, d7, x7, chkO_s (s := st) hs15.2, idx_st0 (s := st) hs15.2]
      have hD9 := box5 hk7 (x0 := .bool (sT st)) (x1 := .bool (sN st)) (x2 := .bool (sC st)) (x3 := .bool (sY st)) (x4 := .bool (sO st))
      have hA9 := setNe5 (p := b9) (x0 := .bool (sT st)) (x1 := .bool (sN st)) (x2 := .bool (sC st)) (x3 := .bool (sY st)) (x4 := .bool (sO st)) hA7 (by omega)
      have hB9 := setNe5 (p := b9) (x0 := .bool (sT st)) (x1 := .bool (sN st)) (x2 := .bool (sC st)) (x3 := .bool (sY st)) (x4 := .bool (sO st)) hB7 (by omega)
      have hM09 := modSet5 (p := b9) (x0 := .bool (sT st)) (x1 := .bool (sN st)) (x2 := .bool (sC st)) (x3 := .bool (sY st)) (x4 := .bool (sO st)) hM07 (.inr hwb)
      have hown9 := ownsRow_mod' hown7 (modSet5 (F := [b9]) (p := b9) (x0 := .bool (sT st)) (x1 := .bool (sN st)) (x2 := .bool (sC st)) (x3 := .bool (sY st)) (x4 := .bool (sO st)) (Mod.refl [b9] w7) (.inl (by simp))) (fun g hg => by have := hlt5 g hg; simp; omega)
      revert hD9 hA9 hB9 hM09 hown9
      generalize (((((w7.setCell ⟨b9, 0, none⟩ (.bool (sT st))).setCell ⟨b9, 1, none⟩ (.bool (sN st))).setCell ⟨b9, 2, none⟩ (.bool (sC st))).setCell ⟨b9, 3, none⟩ (.bool (sY st))).setCell ⟨b9, 4, none⟩ (.bool (sO st))) = w9
      intro hD9 hA9 hB9 hM09 hown9
      have d9 := fun o => cellOf (o := o) hD9
      have c9 := fun o => cellOf (o := o) hA9
      refine hold_stop (s' := some 14) ?_
      refine hold_code okT (rs := [.cell 4 64, .tmp 5]) rfl ?_
      by_cases hto : st = 5
      · rw [if_pos hto] at hE
        have cB := fun o => cellOf (o := o) hB9
        have xB := fun o => frozenOf (o := o) hB9
        simp (maxSteps := 1000000) (disch := first | omega | (simp only [sizeAlloc, sizeDrew, sizeSet, sizePut] <;> omega) | fail) only [GS, TT_eq, TTl, Nat.reduceAdd, Nat.reduceMul, Nat.reduceSub, Nat.reduceDiv, Nat.reduceMod, Nat.reducePow, Nat.reduceEqDiff, ↓reduceIte, reduceCtorEq, Int.reduceToNat, Int.reduceAdd, Int.reduceSub, Int.reduceMul, cB, xB, c9, (decide_eq_true (show (st : Int) = 5 by omega))]
        refine load10 (st10 hB9) ?_
        exact h0 9 _ hE.symm (modSet10 hM09 (.inr hgeB))
      rw [if_neg hto] at hE
      cases hO : sO st
      rotate_left
      · rw [hO] at hE
        rw [if_pos (.inl rfl)] at hE
        have d9 : ∀ o, w9.cell? ⟨b9, o, none⟩ = #[.bool (sT st), .bool (sN st), .bool (sC st), .bool (sY st), .bool true][o]? := fun o => by rw [d9 o, hO]
        have cB := fun o => cellOf (o := o) hB9
        have xB := fun o => frozenOf (o := o) hB9
        simp (maxSteps := 1000000) (disch := first | omega | (simp only [sizeAlloc, sizeDrew, sizeSet, sizePut] <;> omega) | fail) only [GS, TT_eq, TTl, Nat.reduceAdd, Nat.reduceMul, Nat.reduceSub, Nat.reduceDiv, Nat.reduceMod, Nat.reducePow, Nat.reduceEqDiff, ↓reduceIte, reduceCtorEq, Int.reduceToNat, Int.reduceAdd, Int.reduceSub, Int.reduceMul, cB, xB, c9, d9, (decide_eq_false (show ¬ (st : Int) = 5 by omega))]
        refine load10 (st10 hB9) ?_
        exact h0 8 _ hE.symm (modSet10 hM09 (.inr hgeB))
      rw [hO] at hE
      have d9 : ∀ o, w9.cell? ⟨b9, o, none⟩ = #[.bool (sT st), .bool (sN st), .bool (sC st), .bool (sY st), .bool false][o]? := fun o => by rw [d9 o, hO]
      rw [if_neg (fun h => by simp at h)] at hE
      have xA := fun o => frozenOf (o := o) hA9
      simp (maxSteps := 1000000) (disch := first | omega | (simp only [sizeAlloc, sizeDrew, sizeSet, sizePut] <;> omega) | fail) only [GS, TT_eq, TTl, Nat.reduceAdd, Nat.reduceMul, Nat.reduceSub, Nat.reduceDiv, Nat.reduceMod, Nat.reducePow, Nat.reduceEqDiff, ↓reduceIte, reduceCtorEq, Int.reduceToNat, Int.reduceAdd, Int.reduceSub, Int.reduceMul, c9, d9, xA, (decide_eq_false (show ¬ (st : Int) = 5 by omega))]
      have hAE : (w9.setCell ⟨n, 7, none⟩ (.int .u8 5)).heap[n]? = some (.cells #[.int .i64 xa, .int .i64 xb, .int .i64 xc, .int .i64 aud, cv, .int .i64 org, .string ⟨body.toArray⟩, .int .u8 5, .string ⟨tag.toArray⟩, .int .i64 sent] 64 (0, 0)) := by rw [heapSet hA9]; rfl
      have hBE := heapSetNe (b := n) (j := 7) (u := .int .u8 5) hB9 (by omega)
      have hME := hM09.set (p := ⟨n, 7, none⟩) (.inr hgeA) (.int .u8 5)
      have hownE := ownsRow_mod hown9 ((Mod.refl [n] w9).set (p := ⟨n, 7, none⟩) (.inl (by simp)) (.int .u8 5)) (by simp; omega)
      revert hAE hBE hME hownE
      generalize w9.setCell ⟨n, 7, none⟩ (.int .u8 5) = wE
      intro hAE hBE hME hownE
      refine hold_stop (s' := none) ?_
      refine hold_code okT (rs := [.cell 4 64, .tmp 5]) rfl ?_
      have cA := fun o => cellOf (o := o) hAE
      have cB := fun o => cellOf (o := o) hBE
      have xB := fun o => frozenOf (o := o) hBE
      simp (maxSteps := 1000000) (disch := first | omega | (simp only [sizeAlloc, sizeDrew, sizeSet, sizePut] <;> omega) | fail) only [GS, TT_eq, TTl, Nat.reduceAdd, Nat.reduceMul, Nat.reduceSub, Nat.reduceDiv, Nat.reduceMod, Nat.reducePow, Nat.reduceEqDiff, ↓reduceIte, reduceCtorEq, Int.reduceToNat, Int.reduceAdd, Int.reduceSub, Int.reduceMul, cA, cB, xB, oc, cellsL_one oc]
      refine load10 (st10 hBE) ?_
      refine h1 _ cv _ hE.symm ?_ (modSet10 hME (.inr hgeB))
      exact ownsRow_base (ownsRow_mod (S := [n + 1]) hownE (modSet10 (F := [n + 1]) (p := n + 1) (x0 := .int .i64 xa) (x1 := .int .i64 xb) (x2 := .int .i64 xc) (x3 := .int .i64 aud) (x4 := cv) (x5 := .int .i64 org) (x6 := .string ⟨body.toArray⟩) (x7 := .int .u8 5) (x8 := .string ⟨tag.toArray⟩) (x9 := .int .i64 sent) (Mod.refl [n + 1] wE) (.inl (by simp))) (by simp; omega)) (by omega)
  · refine ⟨fok68, hMd _ (hin _ hM0) _ (fun cv w3 hB1 hown hM3 => .inl ⟨_, rfl, hold_stop (s' := some 2) (hold_ops okT (rs := [.cell 4 64, .tmp 5]) rfl ?_)⟩) (fun hB1 w3 hM3 => .inl ⟨_, rfl, hold_stop (s' := some 2) (hold_ops okT (rs := [.cell 4 64, .tmp 5]) rfl ?_)⟩)⟩
    rotate_left
    · subst hB1
      have hA3 := hM3.get hA (by simp)
      have hB3 := hM3.get hB (by simp)
      have hM03 := hM0.trans hM3 (by simp)
      have cA := fun o => cellOf (o := o) hA3
      have xA := fun o => frozenOf (o := o) hA3
      simp (maxSteps := 1000000) (disch := first | omega | (simp only [sizeAlloc, sizeDrew, sizeSet, sizePut] <;> omega) | fail) only [GS, TT_eq, TTl, Nat.reduceAdd, Nat.reduceMul, Nat.reduceSub, Nat.reduceDiv, Nat.reduceMod, Nat.reducePow, Nat.reduceEqDiff, ↓reduceIte, reduceCtorEq, Int.reduceToNat, Int.reduceAdd, Int.reduceSub, Int.reduceMul, cA, xA]
      have hA4 := st10 (p := n) (x0 := .int .i64 0) (x1 := .int .i64 0) (x2 := .int .i64 0) (x3 := .int .i64 0) (x4 := .slice none 0 0) (x5 := .int .i64 0) (x6 := .string ⟨#[]⟩) (x7 := .int .u8 0) (x8 := .string ⟨#[]⟩) (x9 := .int .i64 0) hA3
      have hB4 := setNe10 (p := n) (x0 := .int .i64 0) (x1 := .int .i64 0) (x2 := .int .i64 0) (x3 := .int .i64 0) (x4 := .slice none 0 0) (x5 := .int .i64 0) (x6 := .string ⟨#[]⟩) (x7 := .int .u8 0) (x8 := .string ⟨#[]⟩) (x9 := .int .i64 0) hB3 (by omega)
      have hM04 := modSet10 (p := n) (x0 := .int .i64 0) (x1 := .int .i64 0) (x2 := .int .i64 0) (x3 := .int .i64 0) (x4 := .slice none 0 0) (x5 := .int .i64 0) (x6 := .string ⟨#[]⟩) (x7 := .int .u8 0) (x8 := .string ⟨#[]⟩) (x9 := .int .i64 0) hM03 (.inr hgeA)
      revert hA4 hB4 hM04
      generalize ((((((((((w3.setCell ⟨n, 0, none⟩ (.int .i64 0)).setCell ⟨n, 1, none⟩ (.int .i64 0)).setCell ⟨n, 2, none⟩ (.int .i64 0)).setCell ⟨n, 3, none⟩ (.int .i64 0)).setCell ⟨n, 4, none⟩ (.slice none 0 0)).setCell ⟨n, 5, none⟩ (.int .i64 0)).setCell ⟨n, 6, none⟩ (.string ⟨#[]⟩)).setCell ⟨n, 7, none⟩ (.int .u8 0)).setCell ⟨n, 8, none⟩ (.string ⟨#[]⟩)).setCell ⟨n, 9, none⟩ (.int .i64 0)) = w4
      intro hA4 hB4 hM04
      refine hold_stop (s' := none) ?_
      refine hold_code okT (rs := [.cell 4 64, .tmp 5]) rfl ?_
      simp only [Bool.false_eq_true, if_false] at hE
      have c4 := fun o => cellOf (o := o) hA4
      simp (maxSteps := 1000000) (disch := first | omega | (simp only [sizeAlloc, sizeDrew, sizeSet, sizePut] <;> omega) | fail) only [GS, TT_eq, TTl, Nat.reduceAdd, Nat.reduceMul, Nat.reduceSub, Nat.reduceDiv, Nat.reduceMod, Nat.reducePow, Nat.reduceEqDiff, ↓reduceIte, reduceCtorEq, Int.reduceToNat, Int.reduceAdd, Int.reduceSub, Int.reduceMul, c4]
      refine hold_tree okT [0, 0, 2, 7, 0, 31] (.qop 1 (.qop 2 (.eff 0 (.lin [3, 4, 5]) (.eff 4 (.lin [0, 3, 5]) .stop)))) (by kernel_rfl) ?_
      have hM45 := (Mod.refl [] w4).drewN 1
      generalize w4.drewN 1 = w5 at *
      have hA5 := hM45.get hA4 (by simp)
      have hB5 := hM45.get hB4 (by simp)
      have hM05 := hM04.trans hM45 (by simp)
      have c5 := fun o => cellOf (o := o) hA5
      have hnb : n + 1 < w5.heap.size := (Array.getElem?_eq_some_iff.1 hB5).1
      have hwb := hM05.size
      refine ht_val okT rfl rfl (v := .pointer (some ⟨n, 7, none⟩)) (by simp (maxSteps := 1000000) (disch := first | omega | (simp only [sizeAlloc, sizeDrew, sizeSet, sizePut] <;> omega) | fail) only [GS, TT_eq, TTl, Nat.reduceAdd, Nat.reduceMul, Nat.reduceSub, Nat.reduceDiv, Nat.reduceMod, Nat.reducePow, Nat.reduceEqDiff, ↓reduceIte, reduceCtorEq, Int.reduceToNat, Int.reduceAdd, Int.reduceSub, Int.reduceMul]) ?_
      refine ht_val okT rfl rfl (v := .int .u8 0) (by simp (maxSteps := 1000000) (disch := first | omega | (simp only [sizeAlloc, sizeDrew, sizeSet, sizePut] <;> omega) | fail) only [GS, TT_eq, TTl, Nat.reduceAdd, Nat.reduceMul, Nat.reduceSub, Nat.reduceDiv, Nat.reduceMod, Nat.reducePow, Nat.reduceEqDiff, ↓reduceIte, reduceCtorEq, Int.reduceToNat, Int.reduceAdd, Int.reduceSub, Int.reduceMul, c5]) ?_
      refine ht_call okT rfl rfl ?_ ?_
      · simp (maxSteps := 1000000) (disch := first | omega | (simp only [sizeAlloc, sizeDrew, sizeSet, sizePut] <;> omega) | fail) only [GS, TT_eq, TTl, Nat.reduceAdd, Nat.reduceMul, Nat.reduceSub, Nat.reduceDiv, Nat.reduceMod, Nat.reducePow, Nat.reduceEqDiff, ↓reduceIte, reduceCtorEq, Int.reduceToNat, Int.reduceAdd, Int.reduceSub, Int.reduceMul]
        refine ⟨fok73, pStates_cps _ _ fun w6 hM6 => .inl ⟨_, rfl, cellM (c5 7) hM6, ?_⟩⟩
        have hA6 := hM6.get hA5 (by simp)
        have hB6 := hM6.get hB5 (by simp)
        have hM06 := hM05.trans hM6 (by simp)
        have hs6 := hM6.size
        have c6 := fun o => cellOf (o := o) hA6
        refine ht_lin rfl (hold_stop (s' := some 6) (hold_dops okT (rs := [.cell 4 64, .tmp 5]) rfl ?_))
        unfold stsV
        simp (maxSteps := 1000000) (disch := first | omega | (simp only [sizeAlloc, sizeDrew, sizeSet, sizePut] <;> omega) | fail) only [GS, TT_eq, TTl, Nat.reduceAdd, Nat.reduceMul, Nat.reduceSub, Nat.reduceDiv, Nat.reduceMod, Nat.reducePow, Nat.reduceEqDiff, ↓reduceIte, reduceCtorEq, Int.reduceToNat, Int.reduceAdd, Int.reduceSub, Int.reduceMul, c6, chkO_z]
        have hMa := (Mod.refl [] w6).alloc (.cells #[.bool false, .bool false, .bool false, .bool false, .bool false] 121)
        first | refine ⟨cellM (c6 7) hMa, ?_⟩ | skip
        have hk := heapNew (w := w6) (o := .cells #[.bool false, .bool false, .bool false, .bool false, .bool false] 121)
        have hA7 := heapAlloc (o' := .cells #[.bool false, .bool false, .bool false, .bool false, .bool false] 121) hA6
        have hB7 := heapAlloc (o' := .cells #[.bool false, .bool false, .bool false, .bool false, .bool false] 121) hB6
        have hM07 := hM06.alloc (.cells #[.bool false, .bool false, .bool false, .bool false, .bool false] 121)
        have hD9 := box5 hk (x0 := .bool false) (x1 := .bool false) (x2 := .bool false) (x3 := .bool false) (x4 := .bool false)
        have hA9 := setNe5 (p := w6.heap.size) (x0 := .bool false) (x1 := .bool false) (x2 := .bool false) (x3 := .bool false) (x4 := .bool false) hA7 (by omega)
        have hB9 := setNe5 (p := w6.heap.size) (x0 := .bool false) (x1 := .bool false) (x2 := .bool false) (x3 := .bool false) (x4 := .bool false) hB7 (by omega)
        have hM09 := modSet5 (p := w6.heap.size) (x0 := .bool false) (x1 := .bool false) (x2 := .bool false) (x3 := .bool false) (x4 := .bool false) hM07 (.inr (by omega))
        clear hk hA7 hB7 hM07 hMa
        revert hD9 hA9 hB9 hM09 
        generalize ((((((w6.alloc (.cells #[.bool false, .bool false, .bool false, .bool false, .bool false] 121)).setCell ⟨w6.heap.size, 0, none⟩ (.bool false)).setCell ⟨w6.heap.size, 1, none⟩ (.bool false)).setCell ⟨w6.heap.size, 2, none⟩ (.bool false)).setCell ⟨w6.heap.size, 3, none⟩ (.bool false)).setCell ⟨w6.heap.size, 4, none⟩ (.bool false)) = w9
        generalize w6.heap.size = b9
        intro hD9 hA9 hB9 hM09 
        have d9 := fun o => cellOf (o := o) hD9
        have c9 := fun o => cellOf (o := o) hA9
        refine hold_stop (s' := none) ?_
        refine hold_code okT (rs := [.cell 4 64, .tmp 5]) rfl ?_
        have cB := fun o => cellOf (o := o) hB9
        have xB := fun o => frozenOf (o := o) hB9
        simp (maxSteps := 1000000) (disch := first | omega | (simp only [sizeAlloc, sizeDrew, sizeSet, sizePut] <;> omega) | fail) only [GS, TT_eq, TTl, Nat.reduceAdd, Nat.reduceMul, Nat.reduceSub, Nat.reduceDiv, Nat.reduceMod, Nat.reducePow, Nat.reduceEqDiff, ↓reduceIte, reduceCtorEq, Int.reduceToNat, Int.reduceAdd, Int.reduceSub, Int.reduceMul, cB, xB]
        refine load10 (st10 hB9) ?_
        exact h0 2 _ hE.symm (modSet10 hM09 (.inr hgeB))
      · refine ht_eff okT rfl rfl (v := .pointer (some ⟨w5.heap.size, 0, none⟩)) (w' := w5.alloc (.cells #[.bool false, .bool false, .bool false, .bool false, .bool false] 121)) (by simp (maxSteps := 1000000) only [GS, TT_eq, TTl, Nat.reduceAdd, Nat.reduceMul, Nat.reduceSub, Nat.reduceDiv, Nat.reduceMod, Nat.reducePow, Nat.reduceEqDiff, ↓reduceIte, reduceCtorEq, Int.reduceToNat, Int.reduceAdd, Int.reduceSub, Int.reduceMul]) ?_ ?_ ht_stop
        all_goals have hMa := (Mod.refl [] w5).alloc (.cells #[.bool false, .bool false, .bool false, .bool false, .bool false] 121)
        all_goals have hka := heapNew (w := w5) (o := (.cells #[.bool false, .bool false, .bool false, .bool false, .bool false] 121))
        all_goals generalize w5.alloc (.cells #[.bool false, .bool false, .bool false, .bool false, .bool false] 121) = w6 at hMa hka ⊢
        · simp (maxSteps := 1000000) only [GS, TT_eq, TTl, Nat.reduceAdd, Nat.reduceMul, Nat.reduceSub, Nat.reduceDiv, Nat.reduceMod, Nat.reducePow, Nat.reduceEqDiff, ↓reduceIte, reduceCtorEq, Int.reduceToNat, Int.reduceAdd, Int.reduceSub, Int.reduceMul]
          exact cellM (c5 7) hMa
        have hA6 := hMa.get hA5 (by simp)
        have hB6 := hMa.get hB5 (by simp)
        have hM06 := hM05.trans hMa (by simp)
        have c6 := fun o => cellOf (o := o) hA6
        generalize w5.heap.size = b9 at hka hnb hwb ⊢
        simp (maxSteps := 1000000) only [GS, TT_eq, TTl, Nat.reduceAdd, Nat.reduceMul, Nat.reduceSub, Nat.reduceDiv, Nat.reduceMod, Nat.reducePow, Nat.reduceEqDiff, ↓reduceIte, reduceCtorEq, Int.reduceToNat, Int.reduceAdd, Int.reduceSub, Int.reduceMul]
        refine ht_lin rfl (hold_stop (s' := some 6) (hold_dops okT (rs := [.cell 4 64, .tmp 5]) rfl ?_))
        simp (maxSteps := 1000000) (disch := first | omega | (simp only [sizeAlloc, sizeDrew, sizeSet, sizePut] <;> omega) | fail) only [GS, TT_eq, TTl, Nat.reduceAdd, Nat.reduceMul, Nat.reduceSub, Nat.reduceDiv, Nat.reduceMod, Nat.reducePow, Nat.reduceEqDiff, ↓reduceIte, reduceCtorEq, Int.reduceToNat, Int.reduceAdd, Int.reduceSub, Int.reduceMul, c6]
        refine ⟨fok73, pStates_cps _ _ fun w7 hM7 => .inl ⟨_, rfl, cellM (c6 7) hM7, hold_dops okT (rs := [.cell 4 64, .tmp 5]) rfl ?_⟩⟩
        have hA7 := hM7.get hA6 (by simp)
        have hB7 := hM7.get hB6 (by simp)
        have hk7 := hM7.get hka (by simp)
        have hM07 := hM06.trans hM7 (by simp)
        have c7 := fun o => cellOf (o := o) hA7
        have d7 := fun o => cellOf (o := o) hk7
        have x7 := fun o => frozenOf (o := o) hk7
        unfold stsV
        simp (maxSteps := 1000000) (disch := first | omega | (simp only [sizeAlloc, sizeDrew, sizeSet, sizePut] <;> omega) | fail) only [GS, TT_eq, TTl, Nat.reduceAdd, Nat.reduceMul, Nat.reduceSub, Nat.reduceDiv, Nat.reduceMod, Nat.reducePow, Nat.reduceEqDiff, ↓reduceIte, reduceCtorEq, Int.reduceToNat, Int.reduceAdd, Int.reduceSub, Int.reduceMul, c7, d7, x7, chkO_z]
        have hD9 := box5 hk7 (x0 := .bool false) (x1 := .bool false) (x2 := .bool false) (x3 := .bool false) (x4 := .bool false)
        have hA9 := setNe5 (p := b9) (x0 := .bool false) (x1 := .bool false) (x2 := .bool false) (x3 := .bool false) (x4 := .bool false) hA7 (by omega)
        have hB9 := setNe5 (p := b9) (x0 := .bool false) (x1 := .bool false) (x2 := .bool false) (x3 := .bool false) (x4 := .bool false) hB7 (by omega)
        have hM09 := modSet5 (p := b9) (x0 := .bool false) (x1 := .bool false) (x2 := .bool false) (x3 := .bool false) (x4 := .bool false) hM07 (.inr hwb)
        revert hD9 hA9 hB9 hM09 
        generalize (((((w7.setCell ⟨b9, 0, none⟩ (.bool false)).setCell ⟨b9, 1, none⟩ (.bool false)).setCell ⟨b9, 2, none⟩ (.bool false)).setCell ⟨b9, 3, none⟩ (.bool false)).setCell ⟨b9, 4, none⟩ (.bool false)) = w9
        intro hD9 hA9 hB9 hM09 
        have d9 := fun o => cellOf (o := o) hD9
        have c9 := fun o => cellOf (o := o) hA9
        refine hold_stop (s' := none) ?_
        refine hold_code okT (rs := [.cell 4 64, .tmp 5]) rfl ?_
        have cB := fun o => cellOf (o := o) hB9
        have xB := fun o => frozenOf (o := o) hB9
        simp (maxSteps := 1000000) (disch := first | omega | (simp only [sizeAlloc, sizeDrew, sizeSet, sizePut] <;> omega) | fail) only [GS, TT_eq, TTl, Nat.reduceAdd, Nat.reduceMul, Nat.reduceSub, Nat.reduceDiv, Nat.reduceMod, Nat.reducePow, Nat.reduceEqDiff, ↓reduceIte, reduceCtorEq, Int.reduceToNat, Int.reduceAdd, Int.reduceSub, Int.reduceMul, cB, xB]
        refine load10 (st10 hB9) ?_
        exact h0 2 _ hE.symm (modSet10 hM09 (.inr hgeB))
    subst hB1
    have hA3 := hM3.get hA (by simp)
    have hB3 := hM3.get hB (by simp)
    have hM03 := hM0.trans hM3 (by simp)
    have hz : n + 1 < w1.heap.size := (Array.getElem?_eq_some_iff.1 hB).1
    have oc := ownsRow_one hown
    have cA := fun o => cellOf (o := o) hA3
    have xA := fun o => frozenOf (o := o) hA3
    simp (maxSteps := 1000000) (disch := first | omega | (simp only [sizeAlloc, sizeDrew, sizeSet, sizePut] <;> omega) | fail) only [GS, TT_eq, TTl, Nat.reduceAdd, Nat.reduceMul, Nat.reduceSub, Nat.reduceDiv, Nat.reduceMod, Nat.reducePow, Nat.reduceEqDiff, ↓reduceIte, reduceCtorEq, Int.reduceToNat, Int.reduceAdd, Int.reduceSub, Int.reduceMul, cA, xA, oc, cellsL_one oc]
    have hA4 := st10 (p := n) (x0 := .int .i64 xa) (x1 := .int .i64 xb) (x2 := .int .i64 xc) (x3 := .int .i64 aud) (x4 := cv) (x5 := .int .i64 org) (x6 := .string ⟨body.toArray⟩) (x7 := .int .u8 st) (x8 := .string ⟨tag.toArray⟩) (x9 := .int .i64 sent) hA3
    have hB4 := setNe10 (p := n) (x0 := .int .i64 xa) (x1 := .int .i64 xb) (x2 := .int .i64 xc) (x3 := .int .i64 aud) (x4 := cv) (x5 := .int .i64 org) (x6 := .string ⟨body.toArray⟩) (x7 := .int .u8 st) (x8 := .string ⟨tag.toArray⟩) (x9 := .int .i64 sent) hB3 (by omega)
    have hM04 := modSet10 (p := n) (x0 := .int .i64 xa) (x1 := .int .i64 xb) (x2 := .int .i64 xc) (x3 := .int .i64 aud) (x4 := cv) (x5 := .int .i64 org) (x6 := .string ⟨body.toArray⟩) (x7 := .int .u8 st) (x8 := .string ⟨tag.toArray⟩) (x9 := .int .i64 sent) hM03 (.inr hgeA)
    have hown4 := ownsRow_mod hown (modSet10 (F := [n]) (p := n) (x0 := .int .i64 xa) (x1 := .int .i64 xb) (x2 := .int .i64 xc) (x3 := .int .i64 aud) (x4 := cv) (x5 := .int .i64 org) (x6 := .string ⟨body.toArray⟩) (x7 := .int .u8 st) (x8 := .string ⟨tag.toArray⟩) (x9 := .int .i64 sent) (Mod.refl [n] w3) (.inl (by simp))) (by simp; omega)
    revert hA4 hB4 hM04 hown4
    generalize ((((((((((w3.setCell ⟨n, 0, none⟩ (.int .i64 xa)).setCell ⟨n, 1, none⟩ (.int .i64 xb)).setCell ⟨n, 2, none⟩ (.int .i64 xc)).setCell ⟨n, 3, none⟩ (.int .i64 aud)).setCell ⟨n, 4, none⟩ (cv)).setCell ⟨n, 5, none⟩ (.int .i64 org)).setCell ⟨n, 6, none⟩ (.string ⟨body.toArray⟩)).setCell ⟨n, 7, none⟩ (.int .u8 st)).setCell ⟨n, 8, none⟩ (.string ⟨tag.toArray⟩)).setCell ⟨n, 9, none⟩ (.int .i64 sent)) = w4
    intro hA4 hB4 hM04 hown4
    have hs15 := hm15 rfl
    refine hold_stop (s' := none) ?_
    refine hold_code okT (rs := [.cell 4 64, .tmp 5]) rfl ?_
    simp only [if_true] at hE
    have c4 := fun o => cellOf (o := o) hA4
    simp (maxSteps := 1000000) (disch := first | omega | (simp only [sizeAlloc, sizeDrew, sizeSet, sizePut] <;> omega) | fail) only [GS, TT_eq, TTl, Nat.reduceAdd, Nat.reduceMul, Nat.reduceSub, Nat.reduceDiv, Nat.reduceMod, Nat.reducePow, Nat.reduceEqDiff, ↓reduceIte, reduceCtorEq, Int.reduceToNat, Int.reduceAdd, Int.reduceSub, Int.reduceMul, c4]
    refine hold_tree okT [0, 0, 2, 7, 0, 31] (.qop 1 (.qop 2 (.eff 0 (.lin [3, 4, 5]) (.eff 4 (.lin [0, 3, 5]) .stop)))) (by kernel_rfl) ?_
    have hM45 := (Mod.refl [] w4).drewN 1
    generalize w4.drewN 1 = w5 at *
    have hA5 := hM45.get hA4 (by simp)
    have hB5 := hM45.get hB4 (by simp)
    have hM05 := hM04.trans hM45 (by simp)
    have hown5 := ownsRow_mod hown4 hM45 (by simp)
    have c5 := fun o => cellOf (o := o) hA5
    have hnb : n + 1 < w5.heap.size := (Array.getElem?_eq_some_iff.1 hB5).1
    have hwb := hM05.size
    refine ht_val okT rfl rfl (v := .pointer (some ⟨n, 7, none⟩)) (by simp (maxSteps := 1000000) (disch := first | omega | (simp only [sizeAlloc, sizeDrew, sizeSet, sizePut] <;> omega) | fail) only [GS, TT_eq, TTl, Nat.reduceAdd, Nat.reduceMul, Nat.reduceSub, Nat.reduceDiv, Nat.reduceMod, Nat.reducePow, Nat.reduceEqDiff, ↓reduceIte, reduceCtorEq, Int.reduceToNat, Int.reduceAdd, Int.reduceSub, Int.reduceMul]) ?_
    refine ht_val okT rfl rfl (v := .int .u8 st) (by simp (maxSteps := 1000000) (disch := first | omega | (simp only [sizeAlloc, sizeDrew, sizeSet, sizePut] <;> omega) | fail) only [GS, TT_eq, TTl, Nat.reduceAdd, Nat.reduceMul, Nat.reduceSub, Nat.reduceDiv, Nat.reduceMod, Nat.reducePow, Nat.reduceEqDiff, ↓reduceIte, reduceCtorEq, Int.reduceToNat, Int.reduceAdd, Int.reduceSub, Int.reduceMul, c5]) ?_
    refine ht_call okT rfl rfl ?_ ?_
    · simp (maxSteps := 1000000) (disch := first | omega | (simp only [sizeAlloc, sizeDrew, sizeSet, sizePut] <;> omega) | fail) only [GS, TT_eq, TTl, Nat.reduceAdd, Nat.reduceMul, Nat.reduceSub, Nat.reduceDiv, Nat.reduceMod, Nat.reducePow, Nat.reduceEqDiff, ↓reduceIte, reduceCtorEq, Int.reduceToNat, Int.reduceAdd, Int.reduceSub, Int.reduceMul]
      refine ⟨fok73, pStates_cps _ _ fun w6 hM6 => .inl ⟨_, rfl, cellM (c5 7) hM6, ?_⟩⟩
      have hA6 := hM6.get hA5 (by simp)
      have hB6 := hM6.get hB5 (by simp)
      have hM06 := hM05.trans hM6 (by simp)
      have hs6 := hM6.size
      have hown6 := ownsRow_mod hown5 hM6 (by simp)
      have c6 := fun o => cellOf (o := o) hA6
      refine ht_lin rfl (hold_stop (s' := some 6) (hold_dops okT (rs := [.cell 4 64, .tmp 5]) rfl ?_))
      unfold stsV
      simp (maxSteps := 1000000) (disch := first | omega | (simp only [sizeAlloc, sizeDrew, sizeSet, sizePut] <;> omega) | fail) only [GS, TT_eq, TTl, Nat.reduceAdd, Nat.reduceMul, Nat.reduceSub, Nat.reduceDiv, Nat.reduceMod, Nat.reducePow, Nat.reduceEqDiff, ↓reduceIte, reduceCtorEq, Int.reduceToNat, Int.reduceAdd, Int.reduceSub, Int.reduceMul, c6, chkO_s (s := st) hs15.2, idx_st0 (s := st) hs15.2]
      have hMa := (Mod.refl [] w6).alloc (.cells #[.bool false, .bool false, .bool false, .bool false, .bool false] 121)
      first | refine ⟨cellM (c6 7) hMa, ?_⟩ | skip
      have hk := heapNew (w := w6) (o := .cells #[.bool false, .bool false, .bool false, .bool false, .bool false] 121)
      have hA7 := heapAlloc (o' := .cells #[.bool false, .bool false, .bool false, .bool false, .bool false] 121) hA6
      have hB7 := heapAlloc (o' := .cells #[.bool false, .bool false, .bool false, .bool false, .bool false] 121) hB6
      have hM07 := hM06.alloc (.cells #[.bool false, .bool false, .bool false, .bool false, .bool false] 121)
      have hown7 := hown6.alloc (.cells #[.bool false, .bool false, .bool false, .bool false, .bool false] 121)
      have hD9 := box5 hk (x0 := .bool (sT st)) (x1 := .bool (sN st)) (x2 := .bool (sC st)) (x3 := .bool (sY st)) (x4 := .bool (sO st))
      have hA9 := setNe5 (p := w6.heap.size) (x0 := .bool (sT st)) (x1 := .bool (sN st)) (x2 := .bool (sC st)) (x3 := .bool (sY st)) (x4 := .bool (sO st)) hA7 (by omega)
      have hB9 := setNe5 (p := w6.heap.size) (x0 := .bool (sT st)) (x1 := .bool (sN st)) (x2 := .bool (sC st)) (x3 := .bool (sY st)) (x4 := .bool (sO st)) hB7 (by omega)
      have hM09 := modSet5 (p := w6.heap.size) (x0 := .bool (sT st)) (x1 := .bool (sN st)) (x2 := .bool (sC st)) (x3 := .bool (sY st)) (x4 := .bool (sO st)) hM07 (.inr (by omega))
      have hown9 := ownsRow_mod' hown7 (modSet5 (F := [w6.heap.size]) (p := w6.heap.size) (x0 := .bool (sT st)) (x1 := .bool (sN st)) (x2 := .bool (sC st)) (x3 := .bool (sY st)) (x4 := .bool (sO st)) (Mod.refl [w6.heap.size] _) (.inl (by simp))) (fun g hg => by have := (hown6.lt g hg).2; simp; omega)
      clear hk hA7 hB7 hM07 hMa
      revert hD9 hA9 hB9 hM09 hown9
      generalize ((((((w6.alloc (.cells #[.bool false, .bool false, .bool false, .bool false, .bool false] 121)).setCell ⟨w6.heap.size, 0, none⟩ (.bool (sT st))).setCell ⟨w6.heap.size, 1, none⟩ (.bool (sN st))).setCell ⟨w6.heap.size, 2, none⟩ (.bool (sC st))).setCell ⟨w6.heap.size, 3, none⟩ (.bool (sY st))).setCell ⟨w6.heap.size, 4, none⟩ (.bool (sO st))) = w9
      generalize w6.heap.size = b9
      intro hD9 hA9 hB9 hM09 hown9
      have d9 := fun o => cellOf (o := o) hD9
      have c9 := fun o => cellOf (o := o) hA9
      refine hold_stop (s' := some 14) ?_
      refine hold_code okT (rs := [.cell 4 64, .tmp 5]) rfl ?_
      by_cases hto : st = 4
      · rw [if_pos hto] at hE
        have cB := fun o => cellOf (o := o) hB9
        have xB := fun o => frozenOf (o := o) hB9
        simp (maxSteps := 1000000) (disch := first | omega | (simp only [sizeAlloc, sizeDrew, sizeSet, sizePut] <;> omega) | fail) only [GS, TT_eq, TTl, Nat.reduceAdd, Nat.reduceMul, Nat.reduceSub, Nat.reduceDiv, Nat.reduceMod, Nat.reducePow, Nat.reduceEqDiff, ↓reduceIte, reduceCtorEq, Int.reduceToNat, Int.reduceAdd, Int.reduceSub, Int.reduceMul, cB, xB, c9, (decide_eq_true (show (st : Int) = 4 by omega))]
        refine load10 (st10 hB9) ?_
        exact h0 9 _ hE.symm (modSet10 hM09 (.inr hgeB))
      rw [if_neg hto] at hE
      cases hO : sO st
      rotate_left
      · rw [hO] at hE
        rw [if_pos (.inl rfl)] at hE
        have d9 : ∀ o, w9.cell? ⟨b9, o, none⟩ = #[.bool (sT st), .bool (sN st), .bool (sC st), .bool (sY st), .bool true][o]? := fun o => by rw [d9 o, hO]
        have cB := fun o => cellOf (o := o) hB9
        have xB := fun o => frozenOf (o := o) hB9
        simp (maxSteps := 1000000) (disch := first | omega | (simp only [sizeAlloc, sizeDrew, sizeSet, sizePut] <;> omega) | fail) only [GS, TT_eq, TTl, Nat.reduceAdd, Nat.reduceMul, Nat.reduceSub, Nat.reduceDiv, Nat.reduceMod, Nat.reducePow, Nat.reduceEqDiff, ↓reduceIte, reduceCtorEq, Int.reduceToNat, Int.reduceAdd, Int.reduceSub, Int.reduceMul, cB, xB, c9, d9, (decide_eq_false (show ¬ (st : Int) = 4 by omega))]
        refine load10 (st10 hB9) ?_
        exact h0 8 _ hE.symm (modSet10 hM09 (.inr hgeB))
      rw [hO] at hE
      have d9 : ∀ o, w9.cell? ⟨b9, o, none⟩ = #[.bool (sT st), .bool (sN st), .bool (sC st), .bool (sY st), .bool false][o]? := fun o => by rw [d9 o, hO]
      cases hC : sC st
      · rw [hC] at hE
        rw [if_pos (.inr ⟨trivial, rfl⟩)] at hE
        have d9 : ∀ o, w9.cell? ⟨b9, o, none⟩ = #[.bool (sT st), .bool (sN st), .bool false, .bool (sY st), .bool false][o]? := fun o => by rw [d9 o, hC]
        have cB := fun o => cellOf (o := o) hB9
        have xB := fun o => frozenOf (o := o) hB9
        simp (maxSteps := 1000000) (disch := first | omega | (simp only [sizeAlloc, sizeDrew, sizeSet, sizePut] <;> omega) | fail) only [GS, TT_eq, TTl, Nat.reduceAdd, Nat.reduceMul, Nat.reduceSub, Nat.reduceDiv, Nat.reduceMod, Nat.reducePow, Nat.reduceEqDiff, ↓reduceIte, reduceCtorEq, Int.reduceToNat, Int.reduceAdd, Int.reduceSub, Int.reduceMul, cB, xB, c9, d9, (decide_eq_false (show ¬ (st : Int) = 4 by omega))]
        refine load10 (st10 hB9) ?_
        exact h0 8 _ hE.symm (modSet10 hM09 (.inr hgeB))
      rw [hC] at hE
      rw [if_neg (fun h => by simp at h)] at hE
      have d9 : ∀ o, w9.cell? ⟨b9, o, none⟩ = #[.bool (sT st), .bool (sN st), .bool true, .bool (sY st), .bool false][o]? := fun o => by rw [d9 o, hC]
      have xA := fun o => frozenOf (o := o) hA9
      simp (maxSteps := 1000000) (disch := first | omega | (simp only [sizeAlloc, sizeDrew, sizeSet, sizePut] <;> omega) | fail) only [GS, TT_eq, TTl, Nat.reduceAdd, Nat.reduceMul, Nat.reduceSub, Nat.reduceDiv, Nat.reduceMod, Nat.reducePow, Nat.reduceEqDiff, ↓reduceIte, reduceCtorEq, Int.reduceToNat, Int.reduceAdd, Int.reduceSub, Int.reduceMul, c9, d9, xA, (decide_eq_false (show ¬ (st : Int) = 4 by omega))]
      have hAE : (w9.setCell ⟨n, 7, none⟩ (.int .u8 4)).heap[n]? = some (.cells #[.int .i64 xa, .int .i64 xb, .int .i64 xc, .int .i64 aud, cv, .int .i64 org, .string ⟨body.toArray⟩, .int .u8 4, .string ⟨tag.toArray⟩, .int .i64 sent] 64 (0, 0)) := by rw [heapSet hA9]; rfl
      have hBE := heapSetNe (b := n) (j := 7) (u := .int .u8 4) hB9 (by omega)
      have hME := hM09.set (p := ⟨n, 7, none⟩) (.inr hgeA) (.int .u8 4)
      have hownE := ownsRow_mod hown9 ((Mod.refl [n] w9).set (p := ⟨n, 7, none⟩) (.inl (by simp)) (.int .u8 4)) (by simp; omega)
      revert hAE hBE hME hownE
      generalize w9.setCell ⟨n, 7, none⟩ (.int .u8 4) = wE
      intro hAE hBE hME hownE
      refine hold_stop (s' := none) ?_
      refine hold_code okT (rs := [.cell 4 64, .tmp 5]) rfl ?_
      have cA := fun o => cellOf (o := o) hAE
      have cB := fun o => cellOf (o := o) hBE
      have xB := fun o => frozenOf (o := o) hBE
      simp (maxSteps := 1000000) (disch := first | omega | (simp only [sizeAlloc, sizeDrew, sizeSet, sizePut] <;> omega) | fail) only [GS, TT_eq, TTl, Nat.reduceAdd, Nat.reduceMul, Nat.reduceSub, Nat.reduceDiv, Nat.reduceMod, Nat.reducePow, Nat.reduceEqDiff, ↓reduceIte, reduceCtorEq, Int.reduceToNat, Int.reduceAdd, Int.reduceSub, Int.reduceMul, cA, cB, xB, oc, cellsL_one oc]
      refine load10 (st10 hBE) ?_
      refine h1 _ cv _ hE.symm ?_ (modSet10 hME (.inr hgeB))
      exact ownsRow_base (ownsRow_mod (S := [n + 1]) hownE (modSet10 (F := [n + 1]) (p := n + 1) (x0 := .int .i64 xa) (x1 := .int .i64 xb) (x2 := .int .i64 xc) (x3 := .int .i64 aud) (x4 := cv) (x5 := .int .i64 org) (x6 := .string ⟨body.toArray⟩) (x7 := .int .u8 4) (x8 := .string ⟨tag.toArray⟩) (x9 := .int .i64 sent) (Mod.refl [n + 1] wE) (.inl (by simp))) (by simp; omega)) (by omega)
    · refine ht_eff okT rfl rfl (v := .pointer (some ⟨w5.heap.size, 0, none⟩)) (w' := w5.alloc (.cells #[.bool false, .bool false, .bool false, .bool false, .bool false] 121)) (by simp (maxSteps := 1000000) only [GS, TT_eq, TTl, Nat.reduceAdd, Nat.reduceMul, Nat.reduceSub, Nat.reduceDiv, Nat.reduceMod, Nat.reducePow, Nat.reduceEqDiff, ↓reduceIte, reduceCtorEq, Int.reduceToNat, Int.reduceAdd, Int.reduceSub, Int.reduceMul]) ?_ ?_ ht_stop
      all_goals have hMa := (Mod.refl [] w5).alloc (.cells #[.bool false, .bool false, .bool false, .bool false, .bool false] 121)
      all_goals have hka := heapNew (w := w5) (o := (.cells #[.bool false, .bool false, .bool false, .bool false, .bool false] 121))
      all_goals generalize w5.alloc (.cells #[.bool false, .bool false, .bool false, .bool false, .bool false] 121) = w6 at hMa hka ⊢
      · simp (maxSteps := 1000000) only [GS, TT_eq, TTl, Nat.reduceAdd, Nat.reduceMul, Nat.reduceSub, Nat.reduceDiv, Nat.reduceMod, Nat.reducePow, Nat.reduceEqDiff, ↓reduceIte, reduceCtorEq, Int.reduceToNat, Int.reduceAdd, Int.reduceSub, Int.reduceMul]
        exact cellM (c5 7) hMa
      have hA6 := hMa.get hA5 (by simp)
      have hB6 := hMa.get hB5 (by simp)
      have hM06 := hM05.trans hMa (by simp)
      have c6 := fun o => cellOf (o := o) hA6
      have hown6 := ownsRow_mod hown5 hMa (by simp)
      have hlt5 : ∀ g, cv.ownBlock = some g → g < w5.heap.size := fun g hg => (hown5.lt g hg).2
      generalize w5.heap.size = b9 at hka hnb hwb hlt5 ⊢
      simp (maxSteps := 1000000) only [GS, TT_eq, TTl, Nat.reduceAdd, Nat.reduceMul, Nat.reduceSub, Nat.reduceDiv, Nat.reduceMod, Nat.reducePow, Nat.reduceEqDiff, ↓reduceIte, reduceCtorEq, Int.reduceToNat, Int.reduceAdd, Int.reduceSub, Int.reduceMul]
      refine ht_lin rfl (hold_stop (s' := some 6) (hold_dops okT (rs := [.cell 4 64, .tmp 5]) rfl ?_))
      simp (maxSteps := 1000000) (disch := first | omega | (simp only [sizeAlloc, sizeDrew, sizeSet, sizePut] <;> omega) | fail) only [GS, TT_eq, TTl, Nat.reduceAdd, Nat.reduceMul, Nat.reduceSub, Nat.reduceDiv, Nat.reduceMod, Nat.reducePow, Nat.reduceEqDiff, ↓reduceIte, reduceCtorEq, Int.reduceToNat, Int.reduceAdd, Int.reduceSub, Int.reduceMul, c6]
      refine ⟨fok73, pStates_cps _ _ fun w7 hM7 => .inl ⟨_, rfl, cellM (c6 7) hM7, hold_dops okT (rs := [.cell 4 64, .tmp 5]) rfl ?_⟩⟩
      have hA7 := hM7.get hA6 (by simp)
      have hB7 := hM7.get hB6 (by simp)
      have hk7 := hM7.get hka (by simp)
      have hM07 := hM06.trans hM7 (by simp)
      have hown7 := ownsRow_mod hown6 hM7 (by simp)
      have c7 := fun o => cellOf (o := o) hA7
      have d7 := fun o => cellOf (o := o) hk7
      have x7 := fun o => frozenOf (o := o) hk7
      unfold stsV
      simp (maxSteps := 1000000) (disch := first | omega | (simp only [sizeAlloc, sizeDrew, sizeSet, sizePut] <;> omega) | fail) only [GS, TT_eq, TTl, Nat.reduceAdd, Nat.reduceMul, Nat.reduceSub, Nat.reduceDiv, Nat.reduceMod, Nat.reducePow, Nat.reduceEqDiff, ↓reduceIte, reduceCtorEq, Int.reduceToNat, Int.reduceAdd, Int.reduceSub, Int.reduceMul, c7, d7, x7, chkO_s (s := st) hs15.2, idx_st0 (s := st) hs15.2]
      have hD9 := box5 hk7 (x0 := .bool (sT st)) (x1 := .bool (sN st)) (x2 := .bool (sC st)) (x3 := .bool (sY st)) (x4 := .bool (sO st))
      have hA9 := setNe5 (p := b9) (x0 := .bool (sT st)) (x1 := .bool (sN st)) (x2 := .bool (sC st)) (x3 := .bool (sY st)) (x4 := .bool (sO st)) hA7 (by omega)
      have hB9 := setNe5 (p := b9) (x0 := .bool (sT st)) (x1 := .bool (sN st)) (x2 := .bool (sC st)) (x3 := .bool (sY st)) (x4 := .bool (sO st)) hB7 (by omega)
      have hM09 := modSet5 (p := b9) (x0 := .bool (sT st)) (x1 := .bool (sN st)) (x2 := .bool (sC st)) (x3 := .bool (sY st)) (x4 := .bool (sO st)) hM07 (.inr hwb)
      have hown9 := ownsRow_mod' hown7 (modSet5 (F := [b9]) (p := b9) (x0 := .bool (sT st)) (x1 := .bool (sN st)) (x2 := .bool (sC st)) (x3 := .bool (sY st)) (x4 := .bool (sO st)) (Mod.refl [b9] w7) (.inl (by simp))) (fun g hg => by have := hlt5 g hg; simp; omega)
      revert hD9 hA9 hB9 hM09 hown9
      generalize (((((w7.setCell ⟨b9, 0, none⟩ (.bool (sT st))).setCell ⟨b9, 1, none⟩ (.bool (sN st))).setCell ⟨b9, 2, none⟩ (.bool (sC st))).setCell ⟨b9, 3, none⟩ (.bool (sY st))).setCell ⟨b9, 4, none⟩ (.bool (sO st))) = w9
      intro hD9 hA9 hB9 hM09 hown9
      have d9 := fun o => cellOf (o := o) hD9
      have c9 := fun o => cellOf (o := o) hA9
      refine hold_stop (s' := some 14) ?_
      refine hold_code okT (rs := [.cell 4 64, .tmp 5]) rfl ?_
      by_cases hto : st = 4
      · rw [if_pos hto] at hE
        have cB := fun o => cellOf (o := o) hB9
        have xB := fun o => frozenOf (o := o) hB9
        simp (maxSteps := 1000000) (disch := first | omega | (simp only [sizeAlloc, sizeDrew, sizeSet, sizePut] <;> omega) | fail) only [GS, TT_eq, TTl, Nat.reduceAdd, Nat.reduceMul, Nat.reduceSub, Nat.reduceDiv, Nat.reduceMod, Nat.reducePow, Nat.reduceEqDiff, ↓reduceIte, reduceCtorEq, Int.reduceToNat, Int.reduceAdd, Int.reduceSub, Int.reduceMul, cB, xB, c9, (decide_eq_true (show (st : Int) = 4 by omega))]
        refine load10 (st10 hB9) ?_
        exact h0 9 _ hE.symm (modSet10 hM09 (.inr hgeB))
      rw [if_neg hto] at hE
      cases hO : sO st
      rotate_left
      · rw [hO] at hE
        rw [if_pos (.inl rfl)] at hE
        have d9 : ∀ o, w9.cell? ⟨b9, o, none⟩ = #[.bool (sT st), .bool (sN st), .bool (sC st), .bool (sY st), .bool true][o]? := fun o => by rw [d9 o, hO]
        have cB := fun o => cellOf (o := o) hB9
        have xB := fun o => frozenOf (o := o) hB9
        simp (maxSteps := 1000000) (disch := first | omega | (simp only [sizeAlloc, sizeDrew, sizeSet, sizePut] <;> omega) | fail) only [GS, TT_eq, TTl, Nat.reduceAdd, Nat.reduceMul, Nat.reduceSub, Nat.reduceDiv, Nat.reduceMod, Nat.reducePow, Nat.reduceEqDiff, ↓reduceIte, reduceCtorEq, Int.reduceToNat, Int.reduceAdd, Int.reduceSub, Int.reduceMul, cB, xB, c9, d9, (decide_eq_false (show ¬ (st : Int) = 4 by omega))]
        refine load10 (st10 hB9) ?_
        exact h0 8 _ hE.symm (modSet10 hM09 (.inr hgeB))
      rw [hO] at hE
      have d9 : ∀ o, w9.cell? ⟨b9, o, none⟩ = #[.bool (sT st), .bool (sN st), .bool (sC st), .bool (sY st), .bool false][o]? := fun o => by rw [d9 o, hO]
      cases hC : sC st
      · rw [hC] at hE
        rw [if_pos (.inr ⟨trivial, rfl⟩)] at hE
        have d9 : ∀ o, w9.cell? ⟨b9, o, none⟩ = #[.bool (sT st), .bool (sN st), .bool false, .bool (sY st), .bool false][o]? := fun o => by rw [d9 o, hC]
        have cB := fun o => cellOf (o := o) hB9
        have xB := fun o => frozenOf (o := o) hB9
        simp (maxSteps := 1000000) (disch := first | omega | (simp only [sizeAlloc, sizeDrew, sizeSet, sizePut] <;> omega) | fail) only [GS, TT_eq, TTl, Nat.reduceAdd, Nat.reduceMul, Nat.reduceSub, Nat.reduceDiv, Nat.reduceMod, Nat.reducePow, Nat.reduceEqDiff, ↓reduceIte, reduceCtorEq, Int.reduceToNat, Int.reduceAdd, Int.reduceSub, Int.reduceMul, cB, xB, c9, d9, (decide_eq_false (show ¬ (st : Int) = 4 by omega))]
        refine load10 (st10 hB9) ?_
        exact h0 8 _ hE.symm (modSet10 hM09 (.inr hgeB))
      rw [hC] at hE
      rw [if_neg (fun h => by simp at h)] at hE
      have d9 : ∀ o, w9.cell? ⟨b9, o, none⟩ = #[.bool (sT st), .bool (sN st), .bool true, .bool (sY st), .bool false][o]? := fun o => by rw [d9 o, hC]
      have xA := fun o => frozenOf (o := o) hA9
      simp (maxSteps := 1000000) (disch := first | omega | (simp only [sizeAlloc, sizeDrew, sizeSet, sizePut] <;> omega) | fail) only [GS, TT_eq, TTl, Nat.reduceAdd, Nat.reduceMul, Nat.reduceSub, Nat.reduceDiv, Nat.reduceMod, Nat.reducePow, Nat.reduceEqDiff, ↓reduceIte, reduceCtorEq, Int.reduceToNat, Int.reduceAdd, Int.reduceSub, Int.reduceMul, c9, d9, xA, (decide_eq_false (show ¬ (st : Int) = 4 by omega))]
      have hAE : (w9.setCell ⟨n, 7, none⟩ (.int .u8 4)).heap[n]? = some (.cells #[.int .i64 xa, .int .i64 xb, .int .i64 xc, .int .i64 aud, cv, .int .i64 org, .string ⟨body.toArray⟩, .int .u8 4, .string ⟨tag.toArray⟩, .int .i64 sent] 64 (0, 0)) := by rw [heapSet hA9]; rfl
      have hBE := heapSetNe (b := n) (j := 7) (u := .int .u8 4) hB9 (by omega)
      have hME := hM09.set (p := ⟨n, 7, none⟩) (.inr hgeA) (.int .u8 4)
      have hownE := ownsRow_mod hown9 ((Mod.refl [n] w9).set (p := ⟨n, 7, none⟩) (.inl (by simp)) (.int .u8 4)) (by simp; omega)
      revert hAE hBE hME hownE
      generalize w9.setCell ⟨n, 7, none⟩ (.int .u8 4) = wE
      intro hAE hBE hME hownE
      refine hold_stop (s' := none) ?_
      refine hold_code okT (rs := [.cell 4 64, .tmp 5]) rfl ?_
      have cA := fun o => cellOf (o := o) hAE
      have cB := fun o => cellOf (o := o) hBE
      have xB := fun o => frozenOf (o := o) hBE
      simp (maxSteps := 1000000) (disch := first | omega | (simp only [sizeAlloc, sizeDrew, sizeSet, sizePut] <;> omega) | fail) only [GS, TT_eq, TTl, Nat.reduceAdd, Nat.reduceMul, Nat.reduceSub, Nat.reduceDiv, Nat.reduceMod, Nat.reducePow, Nat.reduceEqDiff, ↓reduceIte, reduceCtorEq, Int.reduceToNat, Int.reduceAdd, Int.reduceSub, Int.reduceMul, cA, cB, xB, oc, cellsL_one oc]
      refine load10 (st10 hBE) ?_
      refine h1 _ cv _ hE.symm ?_ (modSet10 hME (.inr hgeB))
      exact ownsRow_base (ownsRow_mod (S := [n + 1]) hownE (modSet10 (F := [n + 1]) (p := n + 1) (x0 := .int .i64 xa) (x1 := .int .i64 xb) (x2 := .int .i64 xc) (x3 := .int .i64 aud) (x4 := cv) (x5 := .int .i64 org) (x6 := .string ⟨body.toArray⟩) (x7 := .int .u8 4) (x8 := .string ⟨tag.toArray⟩) (x9 := .int .i64 sent) (Mod.refl [n + 1] wE) (.inl (by simp))) (by simp; omega)) (by omega)
end Go.Proofs.Ytpcilobbohokcaa
