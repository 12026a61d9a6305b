/-
  part: Vote, Mark (walks).
-/
import Derived.Test.YtpcilobbohokcaaPkpPar5
set_option linter.unusedSimpArgs false
set_option linter.unusedVariables false
namespace Go.Proofs.Ytpcilobbohokcaa
open Go Go.Wk Go.RowKit
attribute [local irreducible] go Hold
open Go.Lib
theorem idx_st0 {s : Nat} (h : s ≤ 5) : tke 5 (drp (s * 5) [.bool false, .bool false, .bool false, .bool false, .bool false, .bool false, .bool true, .bool false, .bool true, .bool false, .bool true, .bool false, .bool true, .bool false, .bool false, .bool false, .bool true, .bool false, .bool false, .bool false, .bool true, .bool false, .bool false, .bool false, .bool true, .bool true, .bool true, .bool false, .bool false, .bool true]) = [.bool (sT s), .bool (sN s), .bool (sC s), .bool (sY s), .bool (sO s)] := by
  have : s = 0 ∨ s = 1 ∨ s = 2 ∨ s = 3 ∨ s = 4 ∨ s = 5 := by omega
  rcases this with rfl | rfl | rfl | rfl | rfl | rfl <;> rfl
def voteF (p : Pt) (s : Nat) (t : List UInt8) : Except Int Pt := if p.st = 1 then .ok { p with st := s, tag := t } else .error 8
/-- What a transaction at a member becomes by a vote. -/
def voteE (p : Pt) (yes : Bool) (t : List UInt8) : Except Int Pt := if mayPt p = true then (if yes = true then (if checkS t = 0 then voteF p 2 t else .error 2) else if t = [] then voteF p 3 t else .error 2) else .error 2
/-- What it becomes by a mark. -/
def markE (p : Pt) (now : Int) : Except Int Pt := if mayPt p = true then (if now < 0 then .error 2 else .ok { p with sent := now }) else .error 2
set_option maxRecDepth 20000 in
set_option maxHeartbeats 16000000 in
theorem pVote_cps (p : Pt) (ms : Value) (yes : Bool) (t : List UInt8) (ht : t.length ≤ maxLen) (w : World) (h : PtIn w p ms) (R : Ending → World → Prop)
    (h1 : ∀ q cv w', voteE p yes t = .ok q → w'.ownsRow w.heap.size 59 2 cv q.mbs.length (q.mbs.flatMap mbC) → Mod [] w w' → R (.returned (.tuple #[ptV q cv, .int .i64 0])) w')
    (h0 : ∀ c w', voteE p yes t = .error c → Mod [] w w' → R (.returned (.tuple #[ptZ, .int .i64 c])) w') :
    Calls Try.prog 66 #[ptV p ms, .bool yes, .string ⟨t.toArray⟩] w R := by
  generalize hE : voteE p yes t = E at h1 h0
  unfold voteE voteF at hE
  have hMd := fun w h => pMade_cps p ms w h
  have hin := fun w' hM => (h.mod hM : PtIn w' p ms)
  have hst := h.st
  have hse := h.sent
  have os : ms.oneCell' = true := by obtain ⟨a, c, e⟩ := h.rd.slice; rw [e]; rfl
  have hm15 : mayPt p = true → 1 ≤ p.st ∧ p.st ≤ 5 := fun h => by
    unfold mayPt at h
    simp only [Bool.and_eq_true, decide_eq_true_eq] at h
    exact h.1.1.1.1
  clear h
  unfold ptZ at hMd h0
  generalize mayPt p = B at *
  obtain ⟨⟨xa, xb, xc⟩, aud, mbs, org, body, st, tag, sent⟩ := p
  unfold ptV ptC at *
  simp only at hMd hE hst hse hm15 ⊢
  refine calls_go 4000 okT Try.func66 rfl (rs := [.cell 6 64, .tmp 7]) rfl Try.ntmps66 (args := [.agg #[.int .i64 xa, .int .i64 xb, .int .i64 xc, .int .i64 aud, ms, .int .i64 org, .string ⟨body.toArray⟩, .int .u8 st, .string ⟨tag.toArray⟩, .int .i64 sent], .bool yes, .string ⟨t.toArray⟩]) ?_
  simp (maxSteps := 1000000) (disch := first | omega | (simp only [sizeAlloc, sizeDrew, sizeSet, sizePut] <;> omega) | fail) only [GS, TT_eq, TTl, Nat.reduceAdd, Nat.reduceMul, Nat.reduceSub, Nat.reduceDiv, Nat.reduceMod, Nat.reducePow, Nat.reduceEqDiff, ↓reduceIte, reduceCtorEq, Int.reduceToNat, Int.reduceAdd, Int.reduceSub, Int.reduceMul, os, cellsL_one os]
  generalize hW : ((w.alloc (.cells #[.int .i64 xa, .int .i64 xb, .int .i64 xc, .int .i64 aud, ms, .int .i64 org, .string ⟨body.toArray⟩, .int .u8 st, .string ⟨tag.toArray⟩, .int .i64 sent] 64)).alloc (.cells #[.int .i64 0, .int .i64 0, .int .i64 0, .int .i64 0, .slice none 0 0, .int .i64 0, .string ⟨#[]⟩, .int .u8 0, .string ⟨#[]⟩, .int .i64 0] 64)) = w1
  obtain ⟨hA, hB, hM0⟩ := two10 hW
  clear hW
  generalize hn : w.heap.size = n at *
  have hgeB : w.heap.size ≤ n + 1 := by omega
  have hgeA : w.heap.size ≤ n := by omega
  refine ⟨fok68, hMd _ (hin _ hM0) _ (fun cv w3 hB1 hown hM3 => .inl ⟨_, rfl, hold_stop (s' := some 2) (hold_ops okT (rs := [.cell 6 64, .tmp 7]) rfl ?_)⟩) (fun hB1 w3 hM3 => .inl ⟨_, rfl, hold_stop (s' := some 2) (hold_ops okT (rs := [.cell 6 64, .tmp 7]) rfl ?_)⟩)⟩
  rotate_left
  · subst hB1
    have hA3 := hM3.get hA (by simp)
    have hB3 := hM3.get hB (by simp)
    have hM03 := hM0.trans hM3 (by simp)
    have cA := fun o => cellOf (o := o) hA3
    have xA := fun o => frozenOf (o := o) hA3
    simp (maxSteps := 1000000) (disch := first | omega | (simp only [sizeAlloc, sizeDrew, sizeSet, sizePut] <;> omega) | fail) only [GS, TT_eq, TTl, Nat.reduceAdd, Nat.reduceMul, Nat.reduceSub, Nat.reduceDiv, Nat.reduceMod, Nat.reducePow, Nat.reduceEqDiff, ↓reduceIte, reduceCtorEq, Int.reduceToNat, Int.reduceAdd, Int.reduceSub, Int.reduceMul, cA, xA]
    have hA4 := st10 (p := n) (x0 := .int .i64 0) (x1 := .int .i64 0) (x2 := .int .i64 0) (x3 := .int .i64 0) (x4 := .slice none 0 0) (x5 := .int .i64 0) (x6 := .string ⟨#[]⟩) (x7 := .int .u8 0) (x8 := .string ⟨#[]⟩) (x9 := .int .i64 0) hA3
    have hB4 := setNe10 (p := n) (x0 := .int .i64 0) (x1 := .int .i64 0) (x2 := .int .i64 0) (x3 := .int .i64 0) (x4 := .slice none 0 0) (x5 := .int .i64 0) (x6 := .string ⟨#[]⟩) (x7 := .int .u8 0) (x8 := .string ⟨#[]⟩) (x9 := .int .i64 0) hB3 (by omega)
    have hM04 := modSet10 (p := n) (x0 := .int .i64 0) (x1 := .int .i64 0) (x2 := .int .i64 0) (x3 := .int .i64 0) (x4 := .slice none 0 0) (x5 := .int .i64 0) (x6 := .string ⟨#[]⟩) (x7 := .int .u8 0) (x8 := .string ⟨#[]⟩) (x9 := .int .i64 0) hM03 (.inr hgeA)
    revert hA4 hB4 hM04
    generalize ((((((((((w3.setCell ⟨n, 0, none⟩ (.int .i64 0)).setCell ⟨n, 1, none⟩ (.int .i64 0)).setCell ⟨n, 2, none⟩ (.int .i64 0)).setCell ⟨n, 3, none⟩ (.int .i64 0)).setCell ⟨n, 4, none⟩ (.slice none 0 0)).setCell ⟨n, 5, none⟩ (.int .i64 0)).setCell ⟨n, 6, none⟩ (.string ⟨#[]⟩)).setCell ⟨n, 7, none⟩ (.int .u8 0)).setCell ⟨n, 8, none⟩ (.string ⟨#[]⟩)).setCell ⟨n, 9, none⟩ (.int .i64 0)) = w4
    intro hA4 hB4 hM04
    refine hold_stop (s' := none) ?_
    refine hold_code okT (rs := [.cell 6 64, .tmp 7]) rfl ?_
    simp only [Bool.false_eq_true, if_false] at hE
    have cB := fun o => cellOf (o := o) hB4
    have xB := fun o => frozenOf (o := o) hB4
    simp (maxSteps := 1000000) (disch := first | omega | (simp only [sizeAlloc, sizeDrew, sizeSet, sizePut] <;> omega) | fail) only [GS, TT_eq, TTl, Nat.reduceAdd, Nat.reduceMul, Nat.reduceSub, Nat.reduceDiv, Nat.reduceMod, Nat.reducePow, Nat.reduceEqDiff, ↓reduceIte, reduceCtorEq, Int.reduceToNat, Int.reduceAdd, Int.reduceSub, Int.reduceMul, cB, xB]
    refine load10 (st10 hB4) ?_
    exact h0 2 _ hE.symm (modSet10 hM04 (.inr hgeB))
  subst hB1
  have hA3 := hM3.get hA (by simp)
  have hB3 := hM3.get hB (by simp)
  have hM03 := hM0.trans hM3 (by simp)
  have hz : n + 1 < w1.heap.size := (Array.getElem?_eq_some_iff.1 hB).1
  have oc := ownsRow_one hown
  have cA := fun o => cellOf (o := o) hA3
  have xA := fun o => frozenOf (o := o) hA3
  simp (maxSteps := 1000000) (disch := first | omega | (simp only [sizeAlloc, sizeDrew, sizeSet, sizePut] <;> omega) | fail) only [GS, TT_eq, TTl, Nat.reduceAdd, Nat.reduceMul, Nat.reduceSub, Nat.reduceDiv, Nat.reduceMod, Nat.reducePow, Nat.reduceEqDiff, ↓reduceIte, reduceCtorEq, Int.reduceToNat, Int.reduceAdd, Int.reduceSub, Int.reduceMul, cA, xA, oc, cellsL_one oc]
  have hA4 := st10 (p := n) (x0 := .int .i64 xa) (x1 := .int .i64 xb) (x2 := .int .i64 xc) (x3 := .int .i64 aud) (x4 := cv) (x5 := .int .i64 org) (x6 := .string ⟨body.toArray⟩) (x7 := .int .u8 st) (x8 := .string ⟨tag.toArray⟩) (x9 := .int .i64 sent) hA3
  have hB4 := setNe10 (p := n) (x0 := .int .i64 xa) (x1 := .int .i64 xb) (x2 := .int .i64 xc) (x3 := .int .i64 aud) (x4 := cv) (x5 := .int .i64 org) (x6 := .string ⟨body.toArray⟩) (x7 := .int .u8 st) (x8 := .string ⟨tag.toArray⟩) (x9 := .int .i64 sent) hB3 (by omega)
  have hM04 := modSet10 (p := n) (x0 := .int .i64 xa) (x1 := .int .i64 xb) (x2 := .int .i64 xc) (x3 := .int .i64 aud) (x4 := cv) (x5 := .int .i64 org) (x6 := .string ⟨body.toArray⟩) (x7 := .int .u8 st) (x8 := .string ⟨tag.toArray⟩) (x9 := .int .i64 sent) hM03 (.inr hgeA)
  have hown4 := ownsRow_mod hown (modSet10 (F := [n]) (p := n) (x0 := .int .i64 xa) (x1 := .int .i64 xb) (x2 := .int .i64 xc) (x3 := .int .i64 aud) (x4 := cv) (x5 := .int .i64 org) (x6 := .string ⟨body.toArray⟩) (x7 := .int .u8 st) (x8 := .string ⟨tag.toArray⟩) (x9 := .int .i64 sent) (Mod.refl [n] w3) (.inl (by simp))) (by simp; omega)
  revert hA4 hB4 hM04 hown4
  generalize ((((((((((w3.setCell ⟨n, 0, none⟩ (.int .i64 xa)).setCell ⟨n, 1, none⟩ (.int .i64 xb)).setCell ⟨n, 2, none⟩ (.int .i64 xc)).setCell ⟨n, 3, none⟩ (.int .i64 aud)).setCell ⟨n, 4, none⟩ (cv)).setCell ⟨n, 5, none⟩ (.int .i64 org)).setCell ⟨n, 6, none⟩ (.string ⟨body.toArray⟩)).setCell ⟨n, 7, none⟩ (.int .u8 st)).setCell ⟨n, 8, none⟩ (.string ⟨tag.toArray⟩)).setCell ⟨n, 9, none⟩ (.int .i64 sent)) = w4
  intro hA4 hB4 hM04 hown4
  have hs15 := hm15 rfl
  refine hold_stop (s' := none) ?_
  refine hold_code okT (rs := [.cell 6 64, .tmp 7]) rfl ?_
  simp only [if_true] at hE
  cases yes
  · simp only [Bool.false_eq_true, if_false] at hE
    by_cases htn : t = []
    rotate_left
    · rw [if_neg htn] at hE
      have cB := fun o => cellOf (o := o) hB4
      have xB := fun o => frozenOf (o := o) hB4
      simp (maxSteps := 1000000) (disch := first | omega | (simp only [sizeAlloc, sizeDrew, sizeSet, sizePut] <;> omega) | fail) only [GS, TT_eq, TTl, Nat.reduceAdd, Nat.reduceMul, Nat.reduceSub, Nat.reduceDiv, Nat.reduceMod, Nat.reducePow, Nat.reduceEqDiff, ↓reduceIte, reduceCtorEq, Int.reduceToNat, Int.reduceAdd, Int.reduceSub, Int.reduceMul, cB, xB, htn]
      refine load10 (st10 hB4) ?_
      exact h0 2 _ hE.symm (modSet10 hM04 (.inr hgeB))
    subst htn
    rw [if_pos rfl] at hE
    have cA := fun o => cellOf (o := o) hA4
    simp (maxSteps := 1000000) (disch := first | omega | (simp only [sizeAlloc, sizeDrew, sizeSet, sizePut] <;> omega) | fail) only [GS, TT_eq, TTl, Nat.reduceAdd, Nat.reduceMul, Nat.reduceSub, Nat.reduceDiv, Nat.reduceMod, Nat.reducePow, Nat.reduceEqDiff, ↓reduceIte, reduceCtorEq, Int.reduceToNat, Int.reduceAdd, Int.reduceSub, Int.reduceMul, eq_self]
    refine hold_draw okT (rs := [.cell 6 64, .tmp 7]) rfl [0, 0, 2, 7, 15, 31, 63] [1, 2, 0, 3, 4, 5, 6] (by kernel_rfl) (by kernel_rfl) ?_
    have hM45 := (Mod.refl [] w4).drewN 1
    generalize w4.drewN 1 = w5 at *
    have hA5 := hM45.get hA4 (by simp)
    have hB5 := hM45.get hB4 (by simp)
    have hM05 := hM04.trans hM45 (by simp)
    have hown5 := ownsRow_mod hown4 hM45 (by simp)
    have c5 := fun o => cellOf (o := o) hA5
    simp (maxSteps := 1000000) (disch := first | omega | (simp only [sizeAlloc, sizeDrew, sizeSet, sizePut] <;> omega) | fail) only [GS, TT_eq, TTl, Nat.reduceAdd, Nat.reduceMul, Nat.reduceSub, Nat.reduceDiv, Nat.reduceMod, Nat.reducePow, Nat.reduceEqDiff, ↓reduceIte, reduceCtorEq, Int.reduceToNat, Int.reduceAdd, Int.reduceSub, Int.reduceMul, c5]
    refine ⟨fok73, pStates_cps _ _ fun w6 hM56 => .inl ⟨_, rfl, ?_⟩⟩
    refine ⟨cellM (c5 7) hM56, hold_stop (s' := some 11) (hold_dops okT (rs := [.cell 6 64, .tmp 7]) rfl ?_)⟩
    have hA6 := hM56.get hA5 (by simp)
    have hB6 := hM56.get hB5 (by simp)
    have hM06 := hM05.trans hM56 (by simp)
    have hown6 := ownsRow_mod hown5 hM56 (by simp)
    have c6 := fun o => cellOf (o := o) hA6
    unfold stsV
    by_cases hs1 : st = 1
    rotate_left
    · rw [if_neg hs1] at hE
      have hY : sY st = false := decide_eq_false hs1
      have cB := fun o => cellOf (o := o) hB6
      have xB := fun o => frozenOf (o := o) hB6
      simp (maxSteps := 1000000) (disch := first | omega | (simp only [sizeAlloc, sizeDrew, sizeSet, sizePut] <;> omega) | fail) only [GS, TT_eq, TTl, Nat.reduceAdd, Nat.reduceMul, Nat.reduceSub, Nat.reduceDiv, Nat.reduceMod, Nat.reducePow, Nat.reduceEqDiff, ↓reduceIte, reduceCtorEq, Int.reduceToNat, Int.reduceAdd, Int.reduceSub, Int.reduceMul, cB, xB, c6, chkO_s hs15.2, idx_sts hs15, hY]
      refine load10 (st10 hB6) ?_
      exact h0 8 _ hE.symm (modSet10 hM06 (.inr hgeB))
    have hY : sY st = true := decide_eq_true hs1
    rw [if_pos hs1] at hE
    have xA := fun o => frozenOf (o := o) hA6
    simp (maxSteps := 1000000) (disch := first | omega | (simp only [sizeAlloc, sizeDrew, sizeSet, sizePut] <;> omega) | fail) only [GS, TT_eq, TTl, Nat.reduceAdd, Nat.reduceMul, Nat.reduceSub, Nat.reduceDiv, Nat.reduceMod, Nat.reducePow, Nat.reduceEqDiff, ↓reduceIte, reduceCtorEq, Int.reduceToNat, Int.reduceAdd, Int.reduceSub, Int.reduceMul, c6, xA, chkO_s hs15.2, idx_sts hs15, hY]
    have hA7 : ((w6.setCell ⟨n, 7, none⟩ (.int .u8 3)).setCell ⟨n, 8, none⟩ (.string ⟨#[]⟩)).heap[n]? = some (.cells #[.int .i64 xa, .int .i64 xb, .int .i64 xc, .int .i64 aud, cv, .int .i64 org, .string ⟨body.toArray⟩, .int .u8 3, .string ⟨#[]⟩, .int .i64 sent] 64 (0, 0)) := by rw [heapSet (heapSet hA6)]; rfl
    have hB7 := heapSetNe (b := n) (j := 8) (u := .string ⟨#[]⟩) (heapSetNe (b := n) (j := 7) (u := .int .u8 3) hB6 (by omega)) (by omega)
    have hM07 := (hM06.set (p := ⟨n, 7, none⟩) (.inr hgeA) (.int .u8 3)).set (p := ⟨n, 8, none⟩) (.inr hgeA) (.string ⟨#[]⟩)
    have hown7 := ownsRow_mod hown6 (((Mod.refl [n] w6).set (p := ⟨n, 7, none⟩) (.inl (by simp)) (.int .u8 3)).set (p := ⟨n, 8, none⟩) (.inl (by simp)) (.string ⟨#[]⟩)) (by simp; omega)
    revert hA7 hB7 hM07 hown7
    generalize (w6.setCell ⟨n, 7, none⟩ (.int .u8 3)).setCell ⟨n, 8, none⟩ (.string ⟨#[]⟩) = w7
    intro hA7 hB7 hM07 hown7
    refine hold_stop (s' := none) ?_
    refine hold_code okT (rs := [.cell 6 64, .tmp 7]) rfl ?_
    have cA := fun o => cellOf (o := o) hA7
    have cB := fun o => cellOf (o := o) hB7
    have xB := fun o => frozenOf (o := o) hB7
    simp (maxSteps := 1000000) (disch := first | omega | (simp only [sizeAlloc, sizeDrew, sizeSet, sizePut] <;> omega) | fail) only [GS, TT_eq, TTl, Nat.reduceAdd, Nat.reduceMul, Nat.reduceSub, Nat.reduceDiv, Nat.reduceMod, Nat.reducePow, Nat.reduceEqDiff, ↓reduceIte, reduceCtorEq, Int.reduceToNat, Int.reduceAdd, Int.reduceSub, Int.reduceMul, cA, cB, xB, oc, cellsL_one oc]
    refine load10 (st10 hB7) ?_
    refine h1 _ cv _ hE.symm ?_ (modSet10 hM07 (.inr hgeB))
    exact ownsRow_base (ownsRow_mod (S := [n + 1]) hown7 (modSet10 (F := [n + 1]) (p := n + 1) (x0 := .int .i64 xa) (x1 := .int .i64 xb) (x2 := .int .i64 xc) (x3 := .int .i64 aud) (x4 := cv) (x5 := .int .i64 org) (x6 := .string ⟨body.toArray⟩) (x7 := .int .u8 3) (x8 := .string ⟨#[]⟩) (x9 := .int .i64 sent) (Mod.refl [n + 1] w7) (.inl (by simp))) (by simp; omega)) (by omega)
  · simp only [if_true] at hE
    by_cases htn : t = []
    · subst htn
      rw [if_neg check_nil] at hE
      have cB := fun o => cellOf (o := o) hB4
      have xB := fun o => frozenOf (o := o) hB4
      simp (maxSteps := 1000000) (disch := first | omega | (simp only [sizeAlloc, sizeDrew, sizeSet, sizePut] <;> omega) | fail) only [GS, TT_eq, TTl, Nat.reduceAdd, Nat.reduceMul, Nat.reduceSub, Nat.reduceDiv, Nat.reduceMod, Nat.reducePow, Nat.reduceEqDiff, ↓reduceIte, reduceCtorEq, Int.reduceToNat, Int.reduceAdd, Int.reduceSub, Int.reduceMul, cB, xB, eq_self]
      refine load10 (st10 hB4) ?_
      exact h0 2 _ hE.symm (modSet10 hM04 (.inr hgeB))
    have cA := fun o => cellOf (o := o) hA4
    simp (maxSteps := 1000000) (disch := first | omega | (simp only [sizeAlloc, sizeDrew, sizeSet, sizePut] <;> omega) | fail) only [GS, TT_eq, TTl, Nat.reduceAdd, Nat.reduceMul, Nat.reduceSub, Nat.reduceDiv, Nat.reduceMod, Nat.reducePow, Nat.reduceEqDiff, ↓reduceIte, reduceCtorEq, Int.reduceToNat, Int.reduceAdd, Int.reduceSub, Int.reduceMul, htn]
    refine ⟨fok12, tCheck_cps t ht _ _ fun wT hMT => .inl ⟨_, rfl, hold_ops okT (rs := [.cell 6 64, .tmp 7]) rfl ?_⟩⟩
    have hAT := hMT.get hA4 (by simp)
    have hBT := hMT.get hB4 (by simp)
    have hM0T := hM04.trans hMT (by simp)
    have hownT := ownsRow_mod hown4 hMT (by simp)
    by_cases hct : checkS t = 0
    rotate_left
    · rw [if_neg hct] at hE
      have cB := fun o => cellOf (o := o) hBT
      have xB := fun o => frozenOf (o := o) hBT
      simp (maxSteps := 1000000) (disch := first | omega | (simp only [sizeAlloc, sizeDrew, sizeSet, sizePut] <;> omega) | fail) only [GS, TT_eq, TTl, Nat.reduceAdd, Nat.reduceMul, Nat.reduceSub, Nat.reduceDiv, Nat.reduceMod, Nat.reducePow, Nat.reduceEqDiff, ↓reduceIte, reduceCtorEq, Int.reduceToNat, Int.reduceAdd, Int.reduceSub, Int.reduceMul, cB, xB, hct]
      refine load10 (st10 hBT) ?_
      exact h0 2 _ hE.symm (modSet10 hM0T (.inr hgeB))
    rw [if_pos hct] at hE
    simp (maxSteps := 1000000) (disch := first | omega | (simp only [sizeAlloc, sizeDrew, sizeSet, sizePut] <;> omega) | fail) only [GS, TT_eq, TTl, Nat.reduceAdd, Nat.reduceMul, Nat.reduceSub, Nat.reduceDiv, Nat.reduceMod, Nat.reducePow, Nat.reduceEqDiff, ↓reduceIte, reduceCtorEq, Int.reduceToNat, Int.reduceAdd, Int.reduceSub, Int.reduceMul, hct]
    refine hold_draw okT (rs := [.cell 6 64, .tmp 7]) rfl [0, 0, 2, 7, 15, 31, 63] [1, 2, 0, 3, 4, 5, 6] (by kernel_rfl) (by kernel_rfl) ?_
    have hM45 := (Mod.refl [] wT).drewN 1
    generalize wT.drewN 1 = w5 at *
    have hA5 := hM45.get hAT (by simp)
    have hB5 := hM45.get hBT (by simp)
    have hM05 := hM0T.trans hM45 (by simp)
    have hown5 := ownsRow_mod hownT hM45 (by simp)
    have c5 := fun o => cellOf (o := o) hA5
    simp (maxSteps := 1000000) (disch := first | omega | (simp only [sizeAlloc, sizeDrew, sizeSet, sizePut] <;> omega) | fail) only [GS, TT_eq, TTl, Nat.reduceAdd, Nat.reduceMul, Nat.reduceSub, Nat.reduceDiv, Nat.reduceMod, Nat.reducePow, Nat.reduceEqDiff, ↓reduceIte, reduceCtorEq, Int.reduceToNat, Int.reduceAdd, Int.reduceSub, Int.reduceMul, c5]
    refine ⟨fok73, pStates_cps _ _ fun w6 hM56 => .inl ⟨_, rfl, ?_⟩⟩
    refine ⟨cellM (c5 7) hM56, hold_stop (s' := some 11) (hold_dops okT (rs := [.cell 6 64, .tmp 7]) rfl ?_)⟩
    have hA6 := hM56.get hA5 (by simp)
    have hB6 := hM56.get hB5 (by simp)
    have hM06 := hM05.trans hM56 (by simp)
    have hown6 := ownsRow_mod hown5 hM56 (by simp)
    have c6 := fun o => cellOf (o := o) hA6
    unfold stsV
    by_cases hs1 : st = 1
    rotate_left
    · rw [if_neg hs1] at hE
      have hY : sY st = false := decide_eq_false hs1
      have cB := fun o => cellOf (o := o) hB6
      have xB := fun o => frozenOf (o := o) hB6
      simp (maxSteps := 1000000) (disch := first | omega | (simp only [sizeAlloc, sizeDrew, sizeSet, sizePut] <;> omega) | fail) only [GS, TT_eq, TTl, Nat.reduceAdd, Nat.reduceMul, Nat.reduceSub, Nat.reduceDiv, Nat.reduceMod, Nat.reducePow, Nat.reduceEqDiff, ↓reduceIte, reduceCtorEq, Int.reduceToNat, Int.reduceAdd, Int.reduceSub, Int.reduceMul, cB, xB, c6, chkO_s hs15.2, idx_sts hs15, hY]
      refine load10 (st10 hB6) ?_
      exact h0 8 _ hE.symm (modSet10 hM06 (.inr hgeB))
    have hY : sY st = true := decide_eq_true hs1
    rw [if_pos hs1] at hE
    have xA := fun o => frozenOf (o := o) hA6
    simp (maxSteps := 1000000) (disch := first | omega | (simp only [sizeAlloc, sizeDrew, sizeSet, sizePut] <;> omega) | fail) only [GS, TT_eq, TTl, Nat.reduceAdd, Nat.reduceMul, Nat.reduceSub, Nat.reduceDiv, Nat.reduceMod, Nat.reducePow, Nat.reduceEqDiff, ↓reduceIte, reduceCtorEq, Int.reduceToNat, Int.reduceAdd, Int.reduceSub, Int.reduceMul, c6, xA, chkO_s hs15.2, idx_sts hs15, hY]
    have hA7 : (((w6.setCell ⟨n, 7, none⟩ (.int .u8 3)).setCell ⟨n, 8, none⟩ (.string ⟨t.toArray⟩)).setCell ⟨n, 7, none⟩ (.int .u8 2)).heap[n]? = some (.cells #[.int .i64 xa, .int .i64 xb, .int .i64 xc, .int .i64 aud, cv, .int .i64 org, .string ⟨body.toArray⟩, .int .u8 2, .string ⟨t.toArray⟩, .int .i64 sent] 64 (0, 0)) := by rw [heapSet (heapSet (heapSet hA6))]; rfl
    have hB7 := heapSetNe (b := n) (j := 7) (u := .int .u8 2) (heapSetNe (b := n) (j := 8) (u := .string ⟨t.toArray⟩) (heapSetNe (b := n) (j := 7) (u := .int .u8 3) hB6 (by omega)) (by omega)) (by omega)
    have hM07 := ((hM06.set (p := ⟨n, 7, none⟩) (.inr hgeA) (.int .u8 3)).set (p := ⟨n, 8, none⟩) (.inr hgeA) (.string ⟨t.toArray⟩)).set (p := ⟨n, 7, none⟩) (.inr hgeA) (.int .u8 2)
    have hown7 := ownsRow_mod hown6 ((((Mod.refl [n] w6).set (p := ⟨n, 7, none⟩) (.inl (by simp)) (.int .u8 3)).set (p := ⟨n, 8, none⟩) (.inl (by simp)) (.string ⟨t.toArray⟩)).set (p := ⟨n, 7, none⟩) (.inl (by simp)) (.int .u8 2)) (by simp; omega)
    revert hA7 hB7 hM07 hown7
    generalize ((w6.setCell ⟨n, 7, none⟩ (.int .u8 3)).setCell ⟨n, 8, none⟩ (.string ⟨t.toArray⟩)).setCell ⟨n, 7, none⟩ (.int .u8 2) = w7
    intro hA7 hB7 hM07 hown7
    refine hold_stop (s' := none) ?_
    refine hold_code okT (rs := [.cell 6 64, .tmp 7]) rfl ?_
    have cA := fun o => cellOf (o := o) hA7
    have cB := fun o => cellOf (o := o) hB7
    have xB := fun o => frozenOf (o := o) hB7
    simp (maxSteps := 1000000) (disch := first | omega | (simp only [sizeAlloc, sizeDrew, sizeSet, sizePut] <;> omega) | fail) only [GS, TT_eq, TTl, Nat.reduceAdd, Nat.reduceMul, Nat.reduceSub, Nat.reduceDiv, Nat.reduceMod, Nat.reducePow, Nat.reduceEqDiff, ↓reduceIte, reduceCtorEq, Int.reduceToNat, Int.reduceAdd, Int.reduceSub, Int.reduceMul, cA, cB, xB, oc, cellsL_one oc]
    refine load10 (st10 hB7) ?_
    refine h1 _ cv _ hE.symm ?_ (modSet10 hM07 (.inr hgeB))
    exact ownsRow_base (ownsRow_mod (S := [n + 1]) hown7 (modSet10 (F := [n + 1]) (p := n + 1) (x0 := .int .i64 xa) (x1 := .int .i64 xb) (x2 := .int .i64 xc) (x3 := .int .i64 aud) (x4 := cv) (x5 := .int .i64 org) (x6 := .string ⟨body.toArray⟩) (x7 := .int .u8 2) (x8 := .string ⟨t.toArray⟩) (x9 := .int .i64 sent) (Mod.refl [n + 1] w7) (.inl (by simp))) (by simp; omega)) (by omega)
set_option maxRecDepth 20000 in
set_option maxHeartbeats 16000000 in
theorem pMark_cps (p : Pt) (ms : Value) (now : Int) (w : World) (h : PtIn w p ms) (R : Ending → World → Prop)
    (h1 : ∀ q cv w', markE p now = .ok q → w'.ownsRow w.heap.size 59 2 cv q.mbs.length (q.mbs.flatMap mbC) → Mod [] w w' → R (.returned (.tuple #[ptV q cv, .int .i64 0])) w')
    (h0 : ∀ c w', markE p now = .error c → Mod [] w w' → R (.returned (.tuple #[ptZ, .int .i64 c])) w') :
    Calls Try.prog 71 #[ptV p ms, .int .i64 now] w R := by
  generalize hE : markE p now = E at h1 h0
  unfold markE at hE
  have hMd := fun w h => pMade_cps p ms w h
  have hin := fun w' hM => (h.mod hM : PtIn w' p ms)
  have hst := h.st
  have hse := h.sent
  have os : ms.oneCell' = true := by obtain ⟨a, c, e⟩ := h.rd.slice; rw [e]; rfl
  have hm15 : mayPt p = true → 1 ≤ p.st ∧ p.st ≤ 5 := fun h => by
    unfold mayPt at h
    simp only [Bool.and_eq_true, decide_eq_true_eq] at h
    exact h.1.1.1.1
  clear h
  unfold ptZ at hMd h0
  generalize mayPt p = B at *
  obtain ⟨⟨xa, xb, xc⟩, aud, mbs, org, body, st, tag, sent⟩ := p
  unfold ptV ptC at *
  simp only at hMd hE hst hse hm15 ⊢
  refine calls_go 4000 okT Try.func71 rfl (rs := [.cell 4 64, .tmp 5]) rfl Try.ntmps71 (args := [.agg #[.int .i64 xa, .int .i64 xb, .int .i64 xc, .int .i64 aud, ms, .int .i64 org, .string ⟨body.toArray⟩, .int .u8 st, .string ⟨tag.toArray⟩, .int .i64 sent], .int .i64 now]) ?_
  simp (maxSteps := 1000000) (disch := first | omega | (simp only [sizeAlloc, sizeDrew, sizeSet, sizePut] <;> omega) | fail) only [GS, TT_eq, TTl, Nat.reduceAdd, Nat.reduceMul, Nat.reduceSub, Nat.reduceDiv, Nat.reduceMod, Nat.reducePow, Nat.reduceEqDiff, ↓reduceIte, reduceCtorEq, Int.reduceToNat, Int.reduceAdd, Int.reduceSub, Int.reduceMul, os, cellsL_one os]
  generalize hW : ((w.alloc (.cells #[.int .i64 xa, .int .i64 xb, .int .i64 xc, .int .i64 aud, ms, .int .i64 org, .string ⟨body.toArray⟩, .int .u8 st, .string ⟨tag.toArray⟩, .int .i64 sent] 64)).alloc (.cells #[.int .i64 0, .int .i64 0, .int .i64 0, .int .i64 0, .slice none 0 0, .int .i64 0, .string ⟨#[]⟩, .int .u8 0, .string ⟨#[]⟩, .int .i64 0] 64)) = w1
  obtain ⟨hA, hB, hM0⟩ := two10 hW
  clear hW
  generalize hn : w.heap.size = n at *
  have hgeB : w.heap.size ≤ n + 1 := by omega
  have hgeA : w.heap.size ≤ n := by omega
  refine ⟨fok68, hMd _ (hin _ hM0) _ (fun cv w3 hB1 hown hM3 => .inl ⟨_, rfl, hold_stop (s' := some 2) (hold_ops okT (rs := [.cell 4 64, .tmp 5]) rfl ?_)⟩) (fun hB1 w3 hM3 => .inl ⟨_, rfl, hold_stop (s' := some 2) (hold_ops okT (rs := [.cell 4 64, .tmp 5]) rfl ?_)⟩)⟩
  rotate_left
  · subst hB1
    have hA3 := hM3.get hA (by simp)
    have hB3 := hM3.get hB (by simp)
    have hM03 := hM0.trans hM3 (by simp)
    have cA := fun o => cellOf (o := o) hA3
    have xA := fun o => frozenOf (o := o) hA3
    simp (maxSteps := 1000000) (disch := first | omega | (simp only [sizeAlloc, sizeDrew, sizeSet, sizePut] <;> omega) | fail) only [GS, TT_eq, TTl, Nat.reduceAdd, Nat.reduceMul, Nat.reduceSub, Nat.reduceDiv, Nat.reduceMod, Nat.reducePow, Nat.reduceEqDiff, ↓reduceIte, reduceCtorEq, Int.reduceToNat, Int.reduceAdd, Int.reduceSub, Int.reduceMul, cA, xA]
    have hA4 := st10 (p := n) (x0 := .int .i64 0) (x1 := .int .i64 0) (x2 := .int .i64 0) (x3 := .int .i64 0) (x4 := .slice none 0 0) (x5 := .int .i64 0) (x6 := .string ⟨#[]⟩) (x7 := .int .u8 0) (x8 := .string ⟨#[]⟩) (x9 := .int .i64 0) hA3
    have hB4 := setNe10 (p := n) (x0 := .int .i64 0) (x1 := .int .i64 0) (x2 := .int .i64 0) (x3 := .int .i64 0) (x4 := .slice none 0 0) (x5 := .int .i64 0) (x6 := .string ⟨#[]⟩) (x7 := .int .u8 0) (x8 := .string ⟨#[]⟩) (x9 := .int .i64 0) hB3 (by omega)
    have hM04 := modSet10 (p := n) (x0 := .int .i64 0) (x1 := .int .i64 0) (x2 := .int .i64 0) (x3 := .int .i64 0) (x4 := .slice none 0 0) (x5 := .int .i64 0) (x6 := .string ⟨#[]⟩) (x7 := .int .u8 0) (x8 := .string ⟨#[]⟩) (x9 := .int .i64 0) hM03 (.inr hgeA)
    revert hA4 hB4 hM04
    generalize ((((((((((w3.setCell ⟨n, 0, none⟩ (.int .i64 0)).setCell ⟨n, 1, none⟩ (.int .i64 0)).setCell ⟨n, 2, none⟩ (.int .i64 0)).setCell ⟨n, 3, none⟩ (.int .i64 0)).setCell ⟨n, 4, none⟩ (.slice none 0 0)).setCell ⟨n, 5, none⟩ (.int .i64 0)).setCell ⟨n, 6, none⟩ (.string ⟨#[]⟩)).setCell ⟨n, 7, none⟩ (.int .u8 0)).setCell ⟨n, 8, none⟩ (.string ⟨#[]⟩)).setCell ⟨n, 9, none⟩ (.int .i64 0)) = w4
    intro hA4 hB4 hM04
    refine hold_stop (s' := none) ?_
    refine hold_code okT (rs := [.cell 4 64, .tmp 5]) rfl ?_
    simp only [Bool.false_eq_true, if_false] at hE
    have cB := fun o => cellOf (o := o) hB4
    have xB := fun o => frozenOf (o := o) hB4
    simp (maxSteps := 1000000) (disch := first | omega | (simp only [sizeAlloc, sizeDrew, sizeSet, sizePut] <;> omega) | fail) only [GS, TT_eq, TTl, Nat.reduceAdd, Nat.reduceMul, Nat.reduceSub, Nat.reduceDiv, Nat.reduceMod, Nat.reducePow, Nat.reduceEqDiff, ↓reduceIte, reduceCtorEq, Int.reduceToNat, Int.reduceAdd, Int.reduceSub, Int.reduceMul, cB, xB]
    refine load10 (st10 hB4) ?_
    exact h0 2 _ hE.symm (modSet10 hM04 (.inr hgeB))
  subst hB1
  have hA3 := hM3.get hA (by simp)
  have hB3 := hM3.get hB (by simp)
  have hM03 := hM0.trans hM3 (by simp)
  have hz : n + 1 < w1.heap.size := (Array.getElem?_eq_some_iff.1 hB).1
  have oc := ownsRow_one hown
  have cA := fun o => cellOf (o := o) hA3
  have xA := fun o => frozenOf (o := o) hA3
  simp (maxSteps := 1000000) (disch := first | omega | (simp only [sizeAlloc, sizeDrew, sizeSet, sizePut] <;> omega) | fail) only [GS, TT_eq, TTl, Nat.reduceAdd, Nat.reduceMul, Nat.reduceSub, Nat.reduceDiv, Nat.reduceMod, Nat.reducePow, Nat.reduceEqDiff, ↓reduceIte, reduceCtorEq, Int.reduceToNat, Int.reduceAdd, Int.reduceSub, Int.reduceMul, cA, xA, oc, cellsL_one oc]
  have hA4 := st10 (p := n) (x0 := .int .i64 xa) (x1 := .int .i64 xb) (x2 := .int .i64 xc) (x3 := .int .i64 aud) (x4 := cv) (x5 := .int .i64 org) (x6 := .string ⟨body.toArray⟩) (x7 := .int .u8 st) (x8 := .string ⟨tag.toArray⟩) (x9 := .int .i64 sent) hA3
  have hB4 := setNe10 (p := n) (x0 := .int .i64 xa) (x1 := .int .i64 xb) (x2 := .int .i64 xc) (x3 := .int .i64 aud) (x4 := cv) (x5 := .int .i64 org) (x6 := .string ⟨body.toArray⟩) (x7 := .int .u8 st) (x8 := .string ⟨tag.toArray⟩) (x9 := .int .i64 sent) hB3 (by omega)
  have hM04 := modSet10 (p := n) (x0 := .int .i64 xa) (x1 := .int .i64 xb) (x2 := .int .i64 xc) (x3 := .int .i64 aud) (x4 := cv) (x5 := .int .i64 org) (x6 := .string ⟨body.toArray⟩) (x7 := .int .u8 st) (x8 := .string ⟨tag.toArray⟩) (x9 := .int .i64 sent) hM03 (.inr hgeA)
  have hown4 := ownsRow_mod hown (modSet10 (F := [n]) (p := n) (x0 := .int .i64 xa) (x1 := .int .i64 xb) (x2 := .int .i64 xc) (x3 := .int .i64 aud) (x4 := cv) (x5 := .int .i64 org) (x6 := .string ⟨body.toArray⟩) (x7 := .int .u8 st) (x8 := .string ⟨tag.toArray⟩) (x9 := .int .i64 sent) (Mod.refl [n] w3) (.inl (by simp))) (by simp; omega)
  revert hA4 hB4 hM04 hown4
  generalize ((((((((((w3.setCell ⟨n, 0, none⟩ (.int .i64 xa)).setCell ⟨n, 1, none⟩ (.int .i64 xb)).setCell ⟨n, 2, none⟩ (.int .i64 xc)).setCell ⟨n, 3, none⟩ (.int .i64 aud)).setCell ⟨n, 4, none⟩ (cv)).setCell ⟨n, 5, none⟩ (.int .i64 org)).setCell ⟨n, 6, none⟩ (.string ⟨body.toArray⟩)).setCell ⟨n, 7, none⟩ (.int .u8 st)).setCell ⟨n, 8, none⟩ (.string ⟨tag.toArray⟩)).setCell ⟨n, 9, none⟩ (.int .i64 sent)) = w4
  intro hA4 hB4 hM04 hown4
  have hs15 := hm15 rfl
  refine hold_stop (s' := some 5) ?_
  refine hold_code okT (rs := [.cell 4 64, .tmp 5]) rfl ?_
  simp only [if_true] at hE
  by_cases hnow : now < 0
  · rw [if_pos hnow] at hE
    have cB := fun o => cellOf (o := o) hB4
    have xB := fun o => frozenOf (o := o) hB4
    simp (maxSteps := 1000000) (disch := first | omega | (simp only [sizeAlloc, sizeDrew, sizeSet, sizePut] <;> omega) | fail) only [GS, TT_eq, TTl, Nat.reduceAdd, Nat.reduceMul, Nat.reduceSub, Nat.reduceDiv, Nat.reduceMod, Nat.reducePow, Nat.reduceEqDiff, ↓reduceIte, reduceCtorEq, Int.reduceToNat, Int.reduceAdd, Int.reduceSub, Int.reduceMul, cB, xB, hnow]
    refine load10 (st10 hB4) ?_
    exact h0 2 _ hE.symm (modSet10 hM04 (.inr hgeB))
  rw [if_neg hnow] at hE
  have cA := fun o => cellOf (o := o) hA4
  have xA := fun o => frozenOf (o := o) hA4
  simp (maxSteps := 1000000) (disch := first | omega | (simp only [sizeAlloc, sizeDrew, sizeSet, sizePut] <;> omega) | fail) only [GS, TT_eq, TTl, Nat.reduceAdd, Nat.reduceMul, Nat.reduceSub, Nat.reduceDiv, Nat.reduceMod, Nat.reducePow, Nat.reduceEqDiff, ↓reduceIte, reduceCtorEq, Int.reduceToNat, Int.reduceAdd, Int.reduceSub, Int.reduceMul, cA, xA, hnow]
  have hA7 : (w4.setCell ⟨n, 9, none⟩ (.int .i64 now)).heap[n]? = some (.cells #[.int .i64 xa, .int .i64 xb, .int .i64 xc, .int .i64 aud, cv, .int .i64 org, .string ⟨body.toArray⟩, .int .u8 st, .string ⟨tag.toArray⟩, .int .i64 now] 64 (0, 0)) := by rw [heapSet hA4]; rfl
  have hB7 := heapSetNe (b := n) (j := 9) (u := .int .i64 now) hB4 (by omega)
  have hM07 := hM04.set (p := ⟨n, 9, none⟩) (.inr hgeA) (.int .i64 now)
  have hown7 := ownsRow_mod hown4 ((Mod.refl [n] w4).set (p := ⟨n, 9, none⟩) (.inl (by simp)) (.int .i64 now)) (by simp; omega)
  revert hA7 hB7 hM07 hown7
  generalize w4.setCell ⟨n, 9, none⟩ (.int .i64 now) = w7
  intro hA7 hB7 hM07 hown7
  refine hold_stop (s' := none) ?_
  refine hold_code okT (rs := [.cell 4 64, .tmp 5]) rfl ?_
  have cA := fun o => cellOf (o := o) hA7
  have cB := fun o => cellOf (o := o) hB7
  have xB := fun o => frozenOf (o := o) hB7
  simp (maxSteps := 1000000) (disch := first | omega | (simp only [sizeAlloc, sizeDrew, sizeSet, sizePut] <;> omega) | fail) only [GS, TT_eq, TTl, Nat.reduceAdd, Nat.reduceMul, Nat.reduceSub, Nat.reduceDiv, Nat.reduceMod, Nat.reducePow, Nat.reduceEqDiff, ↓reduceIte, reduceCtorEq, Int.reduceToNat, Int.reduceAdd, Int.reduceSub, Int.reduceMul, cA, cB, xB, oc, cellsL_one oc]
  refine load10 (st10 hB7) ?_
  refine h1 _ cv _ hE.symm ?_ (modSet10 hM07 (.inr hgeB))
  exact ownsRow_base (ownsRow_mod (S := [n + 1]) hown7 (modSet10 (F := [n + 1]) (p := n + 1) (x0 := .int .i64 xa) (x1 := .int .i64 xb) (x2 := .int .i64 xc) (x3 := .int .i64 aud) (x4 := cv) (x5 := .int .i64 org) (x6 := .string ⟨body.toArray⟩) (x7 := .int .u8 st) (x8 := .string ⟨tag.toArray⟩) (x9 := .int .i64 now) (Mod.refl [n + 1] w7) (.inl (by simp))) (by simp; omega)) (by omega)
end Go.Proofs.Ytpcilobbohokcaa
