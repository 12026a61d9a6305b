/-
  part: the reference's New, Asks, Ballot, Due, What (walks).
-/
import Derived.Test.YtpcilobbohokcaaGreatPbgParA
import Derived.Test.YtpcilobbohokcaaGreatPbgRefH
set_option linter.unusedSimpArgs false
set_option linter.unusedVariables false
set_option maxRecDepth 20000
namespace Go.Proofs.YtpcilobbohokcaaGreat
open Go Go.Wk Go.RowKit
attribute [local irreducible] go Hold
open Go.Lib
set_option maxRecDepth 20000 in
set_option maxHeartbeats 16000000 in
theorem rNew_cps (m : Msg) (k : Nat) (sa : Value) (org : Int) (body : List UInt8) (hb : body.length ≤ maxLen) (w : World) (h : MgIn w m k sa) (R : Ending → World → Prop)
    (h1 : ∀ cv w', prB m k = true → mayPt (newP m org body) = true → w'.ownsRow w.heap.size 126 2 cv m.mbs.length (m.mbs.flatMap mbC) → Mod [] w w' → R (.returned (.tuple #[ptV (newP m org body) cv, .int .i64 0])) w')
    (h0 : (prB m k && mayPt (newP m org body)) = false → ∀ w', Mod [] w w' → R (.returned (.tuple #[ptZ, .int .i64 2])) w') :
    Calls Tryz.prog 67 #[msgV m sa, .int .i64 org, .string ⟨body.toArray⟩] w R := by
  have hk0 := h.k0
  have hkk := h.k1
  have hCk := fun (w' : World) (hM : Mod [] w w') => rMay12_cps m k h.k0 h.k1 sa h.body h.tag h.len h.dig w' (h.mod hM).rd
  have hpin : ∀ (w' : World) (ns : Value), Rd w' 2 ns m.mbs.length (m.mbs.flatMap mbC) → PtIn w' (newP m org body) ns := fun w' ns hr => ⟨show (1 : Nat) < 256 by decide, show -9223372036854775808 ≤ (-1 : Int) ∧ (-1 : Int) ≤ 9223372036854775807 by decide, h.len, h.dig, hr, hb, by unfold newP; simp⟩
  have hOw := fun (w' : World) hr => rOwn_cps (newP m org body) sa w' (hpin w' sa hr)
  have hMy := fun (w' : World) (ns : Value) hr => rMayPt_cps (newP m org body) ns w' (hpin w' ns hr)
  have hmr := h.rd
  have os : sa.oneCell' = true := by obtain ⟨a, c, e⟩ := h.rd.slice; rw [e]; rfl
  clear h hpin
  unfold prB at h1 h0
  generalize mayPt (newP m org body) = B at *
  generalize checkB k m = C at *
  obtain ⟨k', ⟨ma, mb, mc⟩, maud, mmbs, mbody, yes, mtag⟩ := m
  simp only at hk0
  subst hk0
  unfold ptZ at h0
  unfold newP ptV ptC at *
  unfold msgV msgC at *
  simp only at hCk hOw hMy h1 hmr ⊢
  refine calls_go 4000 okT Tryz.func67 rfl (rs := [.cell 6 72, .tmp 7]) rfl Tryz.ntmps67 (args := [.agg #[.int .u8 k, .int .i64 ma, .int .i64 mb, .int .i64 mc, .int .i64 maud, sa, .string ⟨mbody.toArray⟩, .bool yes, .string ⟨mtag.toArray⟩], .int .i64 org, .string ⟨body.toArray⟩]) ?_
  simp (maxSteps := 1000000) (disch := first | omega | (simp only [sizeAlloc, sizeDrew, sizeSet, sizePut] <;> omega) | fail) only [GS, TT_eq, TTl, Nat.reduceAdd, Nat.reduceMul, Nat.reduceSub, Nat.reduceDiv, Nat.reduceMod, Nat.reducePow, Nat.reduceEqDiff, ↓reduceIte, reduceCtorEq, Int.reduceToNat, Int.reduceAdd, Int.reduceSub, Int.reduceMul, os, cellsL_one os]
  generalize hW : (w.alloc (.cells #[.int .u8 k, .int .i64 ma, .int .i64 mb, .int .i64 mc, .int .i64 maud, sa, .string ⟨mbody.toArray⟩, .bool yes, .string ⟨mtag.toArray⟩] 35)).alloc (.cells #[.int .i64 0, .int .i64 0, .int .i64 0, .int .i64 0, .slice none 0 0, .int .i64 0, .string ⟨#[]⟩, .int .u8 0, .string ⟨#[]⟩, .int .i64 0] 72) = w1
  obtain ⟨hA, hB, hM0⟩ := two10 hW
  clear hW
  generalize hn : w.heap.size = n at *
  have hgeB : w.heap.size ≤ n + 1 := by omega
  have hz : n + 1 < w1.heap.size := (Array.getElem?_eq_some_iff.1 hB).1
  refine ⟨fok53, hOw _ (hmr.mod hM0 (by simp)) _ fun cv w3 hown hM3 => .inl ⟨_, rfl, hold_stop (s' := some 2) (hold_ops okT (rs := [.cell 6 72, .tmp 7]) rfl ?_)⟩⟩
  have hA3 := hM3.get hA (by simp)
  have hB3 := hM3.get hB (by simp)
  have hM03 := hM0.trans hM3 (by simp)
  have oc := ownsRow_one hown
  simp (maxSteps := 1000000) (disch := first | omega | (simp only [sizeAlloc, sizeDrew, sizeSet, sizePut] <;> omega) | fail) only [GS, TT_eq, TTl, Nat.reduceAdd, Nat.reduceMul, Nat.reduceSub, Nat.reduceDiv, Nat.reduceMod, Nat.reducePow, Nat.reduceEqDiff, ↓reduceIte, reduceCtorEq, Int.reduceToNat, Int.reduceAdd, Int.reduceSub, Int.reduceMul, oc, cellsL_one oc]
  generalize hW : (((((((((((w3.alloc (.cells #[.int .i64 0, .int .i64 0, .int .i64 0, .int .i64 0, .slice none 0 0, .int .i64 0, .string ⟨#[]⟩, .int .u8 0, .string ⟨#[]⟩, .int .i64 0] 72)).setCell ⟨w3.heap.size, 0, none⟩ (.int .i64 ma)).setCell ⟨w3.heap.size, 1, none⟩ (.int .i64 mb)).setCell ⟨w3.heap.size, 2, none⟩ (.int .i64 mc)).setCell ⟨w3.heap.size, 3, none⟩ (.int .i64 maud)).setCell ⟨w3.heap.size, 4, none⟩ (cv)).setCell ⟨w3.heap.size, 5, none⟩ (.int .i64 org)).setCell ⟨w3.heap.size, 6, none⟩ (.string ⟨body.toArray⟩)).setCell ⟨w3.heap.size, 7, none⟩ (.int .u8 1)).setCell ⟨w3.heap.size, 8, none⟩ (.string ⟨#[]⟩)).setCell ⟨w3.heap.size, 9, none⟩ (.int .i64 (-1))) = w4
  obtain ⟨hP, hM34⟩ : w4.heap[w3.heap.size]? = some (.cells #[.int .i64 ma, .int .i64 mb, .int .i64 mc, .int .i64 maud, cv, .int .i64 org, .string ⟨body.toArray⟩, .int .u8 1, .string ⟨#[]⟩, .int .i64 (-1)] 72 (0, 0)) ∧ Mod [] w3 w4 := by
    subst hW
    exact ⟨st10 heapNew, modSet10 ((Mod.refl [] w3).alloc _) (.inr (Nat.le_refl _))⟩
  clear hW
  have hA4 := hM34.get hA3 (by simp)
  have hB4 := hM34.get hB3 (by simp)
  have hM04 := hM03.trans hM34 (by simp)
  have hown4 := ownsRow_mod hown hM34 (by simp)
  generalize w3.heap.size = q at *
  refine hold_stop (s' := none) ?_
  refine hold_code okT (rs := [.cell 6 72, .tmp 7]) rfl ?_
  have c4 := fun o => cellOf (o := o) hA4
  by_cases hk1 : (k : Int) = 1
  rotate_left
  · have hb0 : (decide (k = 1) && C && B) = false := by rw [decide_eq_false (show ¬ k = 1 by omega)]; rfl
    have cB := fun o => cellOf (o := o) hB4
    have xB := fun o => frozenOf (o := o) hB4
    simp (maxSteps := 1000000) (disch := first | omega | (simp only [sizeAlloc, sizeDrew, sizeSet, sizePut] <;> omega) | fail) only [GS, TT_eq, TTl, Nat.reduceAdd, Nat.reduceMul, Nat.reduceSub, Nat.reduceDiv, Nat.reduceMod, Nat.reducePow, Nat.reduceEqDiff, ↓reduceIte, reduceCtorEq, Int.reduceToNat, Int.reduceAdd, Int.reduceSub, Int.reduceMul, cB, xB, c4, (decide_eq_false hk1)]
    refine load10 (st10 hB4) ?_
    exact h0 hb0 _ (modSet10 hM04 (.inr hgeB))
  have hk : decide (k = 1) = true := decide_eq_true (by omega)
  rw [hk, Bool.true_and] at h1 h0
  simp (maxSteps := 1000000) (disch := first | omega | (simp only [sizeAlloc, sizeDrew, sizeSet, sizePut] <;> omega) | fail) only [GS, TT_eq, TTl, Nat.reduceAdd, Nat.reduceMul, Nat.reduceSub, Nat.reduceDiv, Nat.reduceMod, Nat.reducePow, Nat.reduceEqDiff, ↓reduceIte, reduceCtorEq, Int.reduceToNat, Int.reduceAdd, Int.reduceSub, Int.reduceMul, c4, (decide_eq_true hk1)]
  refine ⟨fok20, hCk _ hM04 _ fun w5 hM5 => .inl ⟨_, rfl, hold_ops okT (rs := [.cell 6 72, .tmp 7]) rfl ?_⟩⟩
  have hB5 := hM5.get hB4 (by simp)
  have hP5 := hM5.get hP (by simp)
  have hM05 := hM04.trans hM5 (by simp)
  have hown5 := ownsRow_mod hown4 hM5 (by simp)
  cases C
  · have hb0 : (false && B) = false := rfl
    have cB := fun o => cellOf (o := o) hB5
    have xB := fun o => frozenOf (o := o) hB5
    simp (maxSteps := 1000000) (disch := first | omega | (simp only [sizeAlloc, sizeDrew, sizeSet, sizePut] <;> omega) | fail) only [GS, TT_eq, TTl, Nat.reduceAdd, Nat.reduceMul, Nat.reduceSub, Nat.reduceDiv, Nat.reduceMod, Nat.reducePow, Nat.reduceEqDiff, ↓reduceIte, reduceCtorEq, Int.reduceToNat, Int.reduceAdd, Int.reduceSub, Int.reduceMul, cB, xB]
    refine load10 (st10 hB5) ?_
    exact h0 hb0 _ (modSet10 hM05 (.inr hgeB))
  have cP := fun o => cellOf (o := o) hP5
  simp (maxSteps := 1000000) (disch := first | omega | (simp only [sizeAlloc, sizeDrew, sizeSet, sizePut] <;> omega) | fail) only [GS, TT_eq, TTl, Nat.reduceAdd, Nat.reduceMul, Nat.reduceSub, Nat.reduceDiv, Nat.reduceMod, Nat.reducePow, Nat.reduceEqDiff, ↓reduceIte, reduceCtorEq, Int.reduceToNat, Int.reduceAdd, Int.reduceSub, Int.reduceMul, cP]
  refine ⟨fok70, hMy _ cv (Rd.own hown5) _ fun w6 hM6 => .inl ⟨_, rfl, hold_ops okT (rs := [.cell 6 72, .tmp 7]) rfl ?_⟩⟩
  have hB6 := hM6.get hB5 (by simp)
  have hP6 := hM6.get hP5 (by simp)
  have hM06 := hM05.trans hM6 (by simp)
  have hown6 := ownsRow_mod hown5 hM6 (by simp)
  cases B
  · have hb0 : (true && false) = false := rfl
    have cB := fun o => cellOf (o := o) hB6
    have xB := fun o => frozenOf (o := o) hB6
    simp (maxSteps := 1000000) (disch := first | omega | (simp only [sizeAlloc, sizeDrew, sizeSet, sizePut] <;> omega) | fail) only [GS, TT_eq, TTl, Nat.reduceAdd, Nat.reduceMul, Nat.reduceSub, Nat.reduceDiv, Nat.reduceMod, Nat.reducePow, Nat.reduceEqDiff, ↓reduceIte, reduceCtorEq, Int.reduceToNat, Int.reduceAdd, Int.reduceSub, Int.reduceMul, cB, xB]
    refine load10 (st10 hB6) ?_
    exact h0 hb0 _ (modSet10 hM06 (.inr hgeB))
  have cA := fun o => cellOf (o := o) hP6
  have cB := fun o => cellOf (o := o) hB6
  have xB := fun o => frozenOf (o := o) hB6
  simp (maxSteps := 1000000) (disch := first | omega | (simp only [sizeAlloc, sizeDrew, sizeSet, sizePut] <;> omega) | fail) only [GS, TT_eq, TTl, Nat.reduceAdd, Nat.reduceMul, Nat.reduceSub, Nat.reduceDiv, Nat.reduceMod, Nat.reducePow, Nat.reduceEqDiff, ↓reduceIte, reduceCtorEq, Int.reduceToNat, Int.reduceAdd, Int.reduceSub, Int.reduceMul, cA, cB, xB, oc, cellsL_one oc]
  refine load10 (st10 hB6) ?_
  refine h1 cv _ rfl rfl ?_ (modSet10 hM06 (.inr hgeB))
  exact ownsRow_base (ownsRow_mod (S := [n + 1]) hown6 (modSet10 (F := [n + 1]) (p := n + 1) (x0 := .int .i64 ma) (x1 := .int .i64 mb) (x2 := .int .i64 mc) (x3 := .int .i64 maud) (x4 := cv) (x5 := .int .i64 org) (x6 := .string ⟨body.toArray⟩) (x7 := .int .u8 1) (x8 := .string ⟨#[]⟩) (x9 := .int .i64 (-1)) (Mod.refl [n + 1] w6) (.inl (by simp))) (by simp; omega)) (by omega)
set_option maxRecDepth 20000 in
set_option maxHeartbeats 8000000 in
theorem rBallot_cps (p : Pt) (ms : Value) (w : World) (h : PtIn w p ms) (R : Ending → World → Prop)
    (h1 : ∀ cv w', mayPt p = true → w'.ownsRow w.heap.size 126 2 cv p.mbs.length (p.mbs.flatMap mbC) → Mod [] w w' → R (.returned (.tuple #[balV p.tx p.aud cv p.org, .bool true])) w')
    (h0 : mayPt p = false → ∀ w', Mod [] w w' → R (.returned (.tuple #[balZ, .bool false])) w') :
    Calls Tryz.prog 69 #[ptV p ms] w R := by
  have hBl := fun cv os w => rBal_cps p cv os w
  have hMy := fun w h => rMayPt_cps p ms w h
  have hOw := fun w h => rOwn_cps p ms w h
  have hin := fun w' hM => (h.mod hM : PtIn w' p ms)
  have hst := h.st
  have hse := h.sent
  have os : ms.oneCell' = true := by obtain ⟨a, c, e⟩ := h.rd.slice; rw [e]; rfl
  have hm15 : mayPt p = true → (1 ≤ p.st ∧ p.st ≤ 5) ∧ tagB p.st p.tag = true := fun h => by
    unfold mayPt at h
    simp only [Bool.and_eq_true, decide_eq_true_eq] at h
    exact ⟨h.1.1.1.1, h.2⟩
  clear h
  unfold balZ at h0
  generalize mayPt p = B at *
  obtain ⟨⟨xa, xb, xc⟩, aud, mbs, org, body, st, tag, sent⟩ := p
  unfold ptV ptC at *
  unfold balV at h1 hBl
  simp only at h1 hBl hMy hOw hst hse hm15 ⊢
  refine calls_go 4000 okT Tryz.func69 rfl (rs := [.cell 2 56, .tmp 3]) rfl Tryz.ntmps69 (args := [.agg #[.int .i64 xa, .int .i64 xb, .int .i64 xc, .int .i64 aud, ms, .int .i64 org, .string ⟨body.toArray⟩, .int .u8 st, .string ⟨tag.toArray⟩, .int .i64 sent]]) ?_
  simp (maxSteps := 1000000) (disch := first | omega | (simp only [sizeAlloc, sizeDrew, sizeSet, sizePut] <;> omega) | fail) only [GS, TT_eq, TTl, Nat.reduceAdd, Nat.reduceMul, Nat.reduceSub, Nat.reduceDiv, Nat.reduceMod, Nat.reducePow, Nat.reduceEqDiff, ↓reduceIte, reduceCtorEq, Int.reduceToNat, Int.reduceAdd, Int.reduceSub, Int.reduceMul, os, cellsL_one os]
  generalize hW : (w.alloc (.cells #[.int .i64 xa, .int .i64 xb, .int .i64 xc, .int .i64 aud, ms, .int .i64 org, .string ⟨body.toArray⟩, .int .u8 st, .string ⟨tag.toArray⟩, .int .i64 sent] 72)).alloc (.cells #[.int .i64 0, .int .i64 0, .int .i64 0, .int .i64 0, .slice none 0 0, .int .i64 0] 56) = w1
  obtain ⟨hA, hB, hM0⟩ := two10 hW
  clear hW
  generalize hn : w.heap.size = n at *
  have hgeB : w.heap.size ≤ n + 1 := by omega
  have hgeA : w.heap.size ≤ n := by omega
  refine ⟨fok70, hMy _ (hin _ hM0) _ fun w2 hM2 => .inl ⟨_, rfl, hold_ops okT (rs := [.cell 2 56, .tmp 3]) rfl ?_⟩⟩
  have hA2 := hM2.get hA (by simp)
  have hB2 := hM2.get hB (by simp)
  have hM02 := hM0.trans hM2 (by simp)
  have hz : n + 1 < w2.heap.size := (Array.getElem?_eq_some_iff.1 hB2).1
  have c2 := fun o => cellOf (o := o) hA2
  cases B
  · have d2 := fun o => cellOf (o := o) hB2
    have x2 := fun o => frozenOf (o := o) hB2
    simp (maxSteps := 1000000) (disch := first | omega | (simp only [sizeAlloc, sizeDrew, sizeSet, sizePut] <;> omega) | fail) only [GS, TT_eq, TTl, Nat.reduceAdd, Nat.reduceMul, Nat.reduceSub, Nat.reduceDiv, Nat.reduceMod, Nat.reducePow, Nat.reduceEqDiff, ↓reduceIte, reduceCtorEq, Int.reduceToNat, Int.reduceAdd, Int.reduceSub, Int.reduceMul, d2, x2]
    refine load6y (st6z hB2) ?_
    exact h0 rfl _ (modSet6z hM02 (.inr hgeB))
  simp (maxSteps := 1000000) (disch := first | omega | (simp only [sizeAlloc, sizeDrew, sizeSet, sizePut] <;> omega) | fail) only [GS, TT_eq, TTl, Nat.reduceAdd, Nat.reduceMul, Nat.reduceSub, Nat.reduceDiv, Nat.reduceMod, Nat.reducePow, Nat.reduceEqDiff, ↓reduceIte, reduceCtorEq, Int.reduceToNat, Int.reduceAdd, Int.reduceSub, Int.reduceMul, c2]
  refine ⟨fok53, hOw _ (hin _ hM02) _ fun cv w3 hown hM3 => .inl ⟨_, rfl, hold_ops okT (rs := [.cell 2 56, .tmp 3]) rfl ?_⟩⟩
  have hB3 := hM3.get hB2 (by simp)
  have hM03 := hM02.trans hM3 (by simp)
  have oc := ownsRow_one hown
  simp (maxSteps := 1000000) (disch := first | omega | (simp only [sizeAlloc, sizeDrew, sizeSet, sizePut] <;> omega) | fail) only [GS, TT_eq, TTl, Nat.reduceAdd, Nat.reduceMul, Nat.reduceSub, Nat.reduceDiv, Nat.reduceMod, Nat.reducePow, Nat.reduceEqDiff, ↓reduceIte, reduceCtorEq, Int.reduceToNat, Int.reduceAdd, Int.reduceSub, Int.reduceMul]
  refine ⟨fok123, hBl cv oc _ _ fun w4 hM4 => .inl ⟨_, rfl, hold_ops okT (rs := [.cell 2 56, .tmp 3]) rfl ?_⟩⟩
  have hB4 := hM4.get hB3 (by simp)
  have hM04 := hM03.trans hM4 (by simp)
  have hown4 := ownsRow_mod hown hM4 (by simp)
  have d4 := fun o => cellOf (o := o) hB4
  have x4 := fun o => frozenOf (o := o) hB4
  simp (maxSteps := 1000000) (disch := first | omega | (simp only [sizeAlloc, sizeDrew, sizeSet, sizePut] <;> omega) | fail) only [GS, TT_eq, TTl, Nat.reduceAdd, Nat.reduceMul, Nat.reduceSub, Nat.reduceDiv, Nat.reduceMod, Nat.reducePow, Nat.reduceEqDiff, ↓reduceIte, reduceCtorEq, Int.reduceToNat, Int.reduceAdd, Int.reduceSub, Int.reduceMul, d4, x4, oc, cellsL_one oc]
  refine load6y (st6z hB4) ?_
  refine h1 cv _ rfl ?_ (modSet6z hM04 (.inr hgeB))
  exact ownsRow_base (ownsRow_mod (S := [n + 1]) hown4 (modSet6z (F := [n + 1]) (p := n + 1) (x0 := .int .i64 xa) (x1 := .int .i64 xb) (x2 := .int .i64 xc) (x3 := .int .i64 aud) (x4 := cv) (x5 := .int .i64 org) (Mod.refl [n + 1] w4) (.inl (by simp))) (by simp; omega)) (by omega)
set_option maxRecDepth 20000 in
set_option maxHeartbeats 16000000 in
theorem rAsks_cps (p : Pt) (ms : Value) (m : Msg) (k : Nat) (sa : Value) (w : World) (h : PtIn w p ms) (hm : MgIn w m k sa) (R : Ending → World → Prop)
    (hR : ∀ w', Mod [] w w' → R (.returned (.bool (mayPt p && prB m k && decide (m.tx = p.tx ∧ m.aud = p.aud ∧ m.mbs = p.mbs)))) w') :
    Calls Tryz.prog 72 #[ptV p ms, msgV m sa] w R := by
  have hMy := fun w h => rMayPt_cps p ms w h
  have hCk := fun (w' : World) (hM : Mod [] w w') => rMay12_cps m k hm.k0 hm.k1 sa hm.body hm.tag hm.len hm.dig w' (hm.mod hM).rd
  have hin := fun w' hM => (h.mod hM : PtIn w' p ms)
  have hk0 := hm.k0
  have hkk := hm.k1
  have hml := hm.len
  have hmr := hm.rd
  have hpr := h.rd
  have os : ms.oneCell' = true := by obtain ⟨a, c, e⟩ := h.rd.slice; rw [e]; rfl
  have oa : sa.oneCell' = true := by obtain ⟨a, c, e⟩ := hm.rd.slice; rw [e]; rfl
  clear h hm
  unfold prB at hR
  generalize mayPt p = B at *
  generalize checkB k m = C at *
  obtain ⟨⟨xa, xb, xc⟩, aud, mbs, org, body, st, tag, sent⟩ := p
  obtain ⟨k', ⟨ma, mb, mc⟩, maud, mmbs, mbody, yes, mtag⟩ := m
  simp only at hk0
  subst hk0
  unfold ptV ptC at *
  unfold msgV msgC at *
  simp only at hMy hCk hR hml hmr hpr ⊢
  refine calls_go 4000 okT Tryz.func72 rfl (rs := [.tmp 4]) rfl Tryz.ntmps72 (args := [.agg #[.int .i64 xa, .int .i64 xb, .int .i64 xc, .int .i64 aud, ms, .int .i64 org, .string ⟨body.toArray⟩, .int .u8 st, .string ⟨tag.toArray⟩, .int .i64 sent], .agg #[.int .u8 k, .int .i64 ma, .int .i64 mb, .int .i64 mc, .int .i64 maud, sa, .string ⟨mbody.toArray⟩, .bool yes, .string ⟨mtag.toArray⟩]]) ?_
  simp (maxSteps := 1000000) (disch := first | omega | (simp only [sizeAlloc, sizeDrew, sizeSet, sizePut] <;> omega) | fail) only [GS, TT_eq, TTl, Nat.reduceAdd, Nat.reduceMul, Nat.reduceSub, Nat.reduceDiv, Nat.reduceMod, Nat.reducePow, Nat.reduceEqDiff, ↓reduceIte, reduceCtorEq, Int.reduceToNat, Int.reduceAdd, Int.reduceSub, Int.reduceMul, os, cellsL_one os, oa, cellsL_one oa]
  generalize hW : (w.alloc (.cells #[.int .i64 xa, .int .i64 xb, .int .i64 xc, .int .i64 aud, ms, .int .i64 org, .string ⟨body.toArray⟩, .int .u8 st, .string ⟨tag.toArray⟩, .int .i64 sent] 72)).alloc (.cells #[.int .u8 k, .int .i64 ma, .int .i64 mb, .int .i64 mc, .int .i64 maud, sa, .string ⟨mbody.toArray⟩, .bool yes, .string ⟨mtag.toArray⟩] 35) = w1
  obtain ⟨hA, hB, hM0⟩ := boxes2 hW
  clear hW
  generalize hn : w.heap.size = n at *
  refine ⟨fok70, hMy _ (hin _ hM0) _ fun w2 hM2 => .inl ⟨_, rfl, hold_ops okT (rs := [.tmp 4]) rfl ?_⟩⟩
  have hA2 := hM2.get hA (by simp)
  have hB2 := hM2.get hB (by simp)
  have hM02 := hM0.trans hM2 (by simp)
  have d2 := fun o => cellOf (o := o) hB2
  cases B
  · simp only [Bool.false_and] at hR
    simp (maxSteps := 1000000) (disch := first | omega | (simp only [sizeAlloc, sizeDrew, sizeSet, sizePut] <;> omega) | fail) only [GS, TT_eq, TTl, Nat.reduceAdd, Nat.reduceMul, Nat.reduceSub, Nat.reduceDiv, Nat.reduceMod, Nat.reducePow, Nat.reduceEqDiff, ↓reduceIte, reduceCtorEq, Int.reduceToNat, Int.reduceAdd, Int.reduceSub, Int.reduceMul]
    exact hR _ hM02
  simp only [Bool.true_and] at hR
  by_cases hk1 : (k : Int) = 1
  rotate_left
  · rw [decide_eq_false (show ¬ k = 1 by omega)] at hR
    simp only [Bool.false_and] at hR
    simp (maxSteps := 1000000) (disch := first | omega | (simp only [sizeAlloc, sizeDrew, sizeSet, sizePut] <;> omega) | fail) only [GS, TT_eq, TTl, Nat.reduceAdd, Nat.reduceMul, Nat.reduceSub, Nat.reduceDiv, Nat.reduceMod, Nat.reducePow, Nat.reduceEqDiff, ↓reduceIte, reduceCtorEq, Int.reduceToNat, Int.reduceAdd, Int.reduceSub, Int.reduceMul, d2, (decide_eq_false hk1)]
    exact hR _ hM02
  rw [decide_eq_true (show k = 1 by omega), Bool.true_and] at hR
  simp (maxSteps := 1000000) (disch := first | omega | (simp only [sizeAlloc, sizeDrew, sizeSet, sizePut] <;> omega) | fail) only [GS, TT_eq, TTl, Nat.reduceAdd, Nat.reduceMul, Nat.reduceSub, Nat.reduceDiv, Nat.reduceMod, Nat.reducePow, Nat.reduceEqDiff, ↓reduceIte, reduceCtorEq, Int.reduceToNat, Int.reduceAdd, Int.reduceSub, Int.reduceMul, d2, (decide_eq_true hk1)]
  refine ⟨fok20, hCk _ hM02 _ fun w5 hM5 => .inl ⟨_, rfl, hold_ops okT (rs := [.tmp 4]) rfl ?_⟩⟩
  have hA5 := hM5.get hA2 (by simp)
  have hB5 := hM5.get hB2 (by simp)
  have hM05 := hM02.trans hM5 (by simp)
  cases C
  · simp only [Bool.false_and] at hR
    simp (maxSteps := 1000000) (disch := first | omega | (simp only [sizeAlloc, sizeDrew, sizeSet, sizePut] <;> omega) | fail) only [GS, TT_eq, TTl, Nat.reduceAdd, Nat.reduceMul, Nat.reduceSub, Nat.reduceDiv, Nat.reduceMod, Nat.reducePow, Nat.reduceEqDiff, ↓reduceIte, reduceCtorEq, Int.reduceToNat, Int.reduceAdd, Int.reduceSub, Int.reduceMul]
    exact hR _ hM05
  simp only [Bool.true_and] at hR
  have cB := fun o => cellOf (o := o) hB5
  have cD := fun o => cellOf (o := o) hA5
  by_cases h_ma : ma = xa
  rotate_left
  · rw [decide_eq_false (fun h => h_ma (by have := h.1; simp only [Prod.mk.injEq] at this; exact this.1))] at hR
    simp (maxSteps := 1000000) (disch := first | omega | (simp only [sizeAlloc, sizeDrew, sizeSet, sizePut] <;> omega) | fail) only [GS, TT_eq, TTl, Nat.reduceAdd, Nat.reduceMul, Nat.reduceSub, Nat.reduceDiv, Nat.reduceMod, Nat.reducePow, Nat.reduceEqDiff, ↓reduceIte, reduceCtorEq, Int.reduceToNat, Int.reduceAdd, Int.reduceSub, Int.reduceMul, cB, cD, eq_self, h_ma]
    exact hR _ hM05
  subst h_ma
  by_cases h_mb : mb = xb
  rotate_left
  · rw [decide_eq_false (fun h => h_mb (by have := h.1; simp only [Prod.mk.injEq] at this; exact this.2.1))] at hR
    simp (maxSteps := 1000000) (disch := first | omega | (simp only [sizeAlloc, sizeDrew, sizeSet, sizePut] <;> omega) | fail) only [GS, TT_eq, TTl, Nat.reduceAdd, Nat.reduceMul, Nat.reduceSub, Nat.reduceDiv, Nat.reduceMod, Nat.reducePow, Nat.reduceEqDiff, ↓reduceIte, reduceCtorEq, Int.reduceToNat, Int.reduceAdd, Int.reduceSub, Int.reduceMul, cB, cD, eq_self, h_mb]
    exact hR _ hM05
  subst h_mb
  by_cases h_mc : mc = xc
  rotate_left
  · rw [decide_eq_false (fun h => h_mc (by have := h.1; simp only [Prod.mk.injEq] at this; exact this.2.2))] at hR
    simp (maxSteps := 1000000) (disch := first | omega | (simp only [sizeAlloc, sizeDrew, sizeSet, sizePut] <;> omega) | fail) only [GS, TT_eq, TTl, Nat.reduceAdd, Nat.reduceMul, Nat.reduceSub, Nat.reduceDiv, Nat.reduceMod, Nat.reducePow, Nat.reduceEqDiff, ↓reduceIte, reduceCtorEq, Int.reduceToNat, Int.reduceAdd, Int.reduceSub, Int.reduceMul, cB, cD, eq_self, h_mc]
    exact hR _ hM05
  subst h_mc
  by_cases h_maud : maud = aud
  rotate_left
  · rw [decide_eq_false (fun h => h_maud (h.2.1))] at hR
    simp (maxSteps := 1000000) (disch := first | omega | (simp only [sizeAlloc, sizeDrew, sizeSet, sizePut] <;> omega) | fail) only [GS, TT_eq, TTl, Nat.reduceAdd, Nat.reduceMul, Nat.reduceSub, Nat.reduceDiv, Nat.reduceMod, Nat.reducePow, Nat.reduceEqDiff, ↓reduceIte, reduceCtorEq, Int.reduceToNat, Int.reduceAdd, Int.reduceSub, Int.reduceMul, cB, cD, eq_self, h_maud]
    exact hR _ hM05
  subst h_maud
  simp (maxSteps := 1000000) (disch := first | omega | (simp only [sizeAlloc, sizeDrew, sizeSet, sizePut] <;> omega) | fail) only [GS, TT_eq, TTl, Nat.reduceAdd, Nat.reduceMul, Nat.reduceSub, Nat.reduceDiv, Nat.reduceMod, Nat.reducePow, Nat.reduceEqDiff, ↓reduceIte, reduceCtorEq, Int.reduceToNat, Int.reduceAdd, Int.reduceSub, Int.reduceMul, cB, cD, eq_self]
  refine ⟨fok50, SameM_cps sa ms mmbs mbs _ _ hml (hmr.mod hM05 (by simp)) (hpr.mod hM05 (by simp)) fun w6 hM6 => .inl ⟨_, rfl, hold_ops okT (rs := [.tmp 4]) rfl ?_⟩⟩
  have hM06 := hM05.trans hM6 (by simp)
  have hE : decide (((ma, mb, mc) : Tx) = (ma, mb, mc) ∧ maud = maud ∧ mmbs = mbs) = decide (mmbs = mbs) := decide_eq_decide.2 ⟨fun h => h.2.2, fun h => ⟨rfl, rfl, h⟩⟩
  rw [hE] at hR
  simp (maxSteps := 1000000) (disch := first | omega | (simp only [sizeAlloc, sizeDrew, sizeSet, sizePut] <;> omega) | fail) only [GS, TT_eq, TTl, Nat.reduceAdd, Nat.reduceMul, Nat.reduceSub, Nat.reduceDiv, Nat.reduceMod, Nat.reducePow, Nat.reduceEqDiff, ↓reduceIte, reduceCtorEq, Int.reduceToNat, Int.reduceAdd, Int.reduceSub, Int.reduceMul]
  exact hR _ hM06
end Go.Proofs.YtpcilobbohokcaaGreat
