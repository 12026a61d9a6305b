/-
  part: Same (walk).
-/
import Derived.Test.YtpcilobbohokcaaPkpPar8
set_option linter.unusedSimpArgs false
set_option linter.unusedVariables false
namespace Go.Proofs.Ytpcilobbohokcaa
open Go Go.Wk Go.RowKit
attribute [local irreducible] go Hold
open Go.Lib
set_option maxRecDepth 20000 in
set_option maxHeartbeats 8000000 in
theorem pEqual_cps (sa sb : Value) (xs ys : List Mb) (w : World) (R : Ending → World → Prop) (hx : xs.length ≤ 1000000) (ha : Rd w 2 sa xs.length (xs.flatMap mbC)) (hb : Rd w 2 sb ys.length (ys.flatMap mbC))
    (hR : ∀ w', Mod [] w w' → R (.returned (.bool (decide (xs = ys)))) w') : Calls Try.prog 70 #[sa, sb] w R := by
  by_cases hl : xs.length = ys.length
  · obtain ⟨a, ca, rfl⟩ := ha.slice
    obtain ⟨b, cb, rfl⟩ := hb.slice
    refine calls_go 4000 okT Try.func70 rfl (rs := [.tmp 4]) rfl Try.ntmps70 (args := [.slice a xs.length ca, .slice b ys.length cb]) ?_
    simp (maxSteps := 1000000) (disch := first | omega | (simp only [sizeAlloc, sizeDrew, sizeSet, sizePut] <;> omega) | fail) only [GS, TT_eq, TTl, Nat.reduceAdd, Nat.reduceMul, Nat.reduceSub, Nat.reduceDiv, Nat.reduceMod, Nat.reducePow, Nat.reduceEqDiff, ↓reduceIte, reduceCtorEq, Int.reduceToNat, Int.reduceAdd, Int.reduceSub, Int.reduceMul]
    refine hold_loop okT (rs := [.tmp 4]) rfl [13] [4, 5, 14, 15, 16, 17, 18, 19, 20, 21, 22, 23, 24, 25] (fun vs w' => ∃ k : Nat, k ≤ xs.length ∧ vs = [.int .i64 k] ∧ Mod [] w w' ∧ xs.take k = ys.take k) (fun vs _ => match vs with | [.int _ i] => xs.length - i.toNat | _ => 0) (by kernel_rfl) ⟨0, by omega, rfl, Mod.refl _ _, by simp⟩ ?_
    rintro vs w' J ⟨k, hk, rfl, hM, ht⟩
    by_cases hlt : k < xs.length
    · obtain ⟨b1, o1, c1, e1, _, g1⟩ := (ha.mod hM (by simp)).at (by omega) (by omega)
      obtain ⟨b2, o2, c2, e2, _, g2⟩ := (hb.mod hM (by simp)).at (by omega) (by omega)
      rw [Value.slice.injEq] at e1 e2
      obtain ⟨rfl, -, -⟩ := e1
      obtain ⟨rfl, -, -⟩ := e2
      have hf1 := fun j hj => flat_get mbC 2 mbC_len xs k hlt j hj
      have hf2 := fun j hj => flat_get mbC 2 mbC_len ys k (hl ▸ hlt) j hj
      have ht1 := List.take_succ_eq_append_getElem hlt
      have ht2 := List.take_succ_eq_append_getElem (hl ▸ hlt : k < ys.length)
      have hm1 := List.getElem?_eq_getElem hlt
      have hm2 := List.getElem?_eq_getElem (hl ▸ hlt : k < ys.length)
      generalize xs[k] = m1 at hf1 ht1 hm1
      generalize ys[k]'(hl ▸ hlt) = m2 at hf2 ht2 hm2
      obtain ⟨p1, q1⟩ := m1
      obtain ⟨p2, q2⟩ := m2
      have d0 : w'.cell? ⟨b1, o1 + k * 2, none⟩ = some (.int .i64 p1) := by rw [← g1 (k * 2) _ (hf1 0 (by omega))]
      have d1 : w'.cell? ⟨b1, o1 + k * 2 + 1, none⟩ = some (.string ⟨q1.toArray⟩) := by rw [← g1 (k * 2 + 1) _ (hf1 1 (by omega))]; rfl
      have d2 : w'.cell? ⟨b2, o2 + k * 2, none⟩ = some (.int .i64 p2) := by rw [← g2 (k * 2) _ (hf2 0 (by omega))]
      have d3 : w'.cell? ⟨b2, o2 + k * 2 + 1, none⟩ = some (.string ⟨q2.toArray⟩) := by rw [← g2 (k * 2 + 1) _ (hf2 1 (by omega))]; rfl
      clear hf1 hf2 g1 g2
      by_cases hp : p1 = p2
      · by_cases hq : q1 = q2
        · subst hp hq
          have he1 : bnd (decide (p1 = p1)) (bnd (decide (q1 = q1)) true) = true := by simp [bnd]
          simp (maxSteps := 1000000) (disch := first | omega | (simp only [sizeAlloc, sizeDrew, sizeSet, sizePut] <;> omega) | fail) only [GS, TT_eq, TTl, Nat.reduceAdd, Nat.reduceMul, Nat.reduceSub, Nat.reduceDiv, Nat.reduceMod, Nat.reducePow, Nat.reduceEqDiff, ↓reduceIte, reduceCtorEq, Int.reduceToNat, Int.reduceAdd, Int.reduceSub, Int.reduceMul, d0, d1, d2, d3]
          refine ⟨by kernel_rfl, fun m => ?_⟩
          exact ⟨⟨k + 1, by omega, rfl, hM.drewN m, by rw [ht1, ht2, ht]⟩, by omega⟩
        · subst hp
          simp (maxSteps := 1000000) (disch := first | omega | (simp only [sizeAlloc, sizeDrew, sizeSet, sizePut] <;> omega) | fail) only [GS, TT_eq, TTl, Nat.reduceAdd, Nat.reduceMul, Nat.reduceSub, Nat.reduceDiv, Nat.reduceMod, Nat.reducePow, Nat.reduceEqDiff, ↓reduceIte, reduceCtorEq, Int.reduceToNat, Int.reduceAdd, Int.reduceSub, Int.reduceMul, d0, d1, d2, d3, hq]
          rw [decide_eq_false (fun e => hq (by rw [e, hm2, Option.some.injEq, Prod.mk.injEq] at hm1; exact hm1.2.symm))] at hR
          exact ⟨by kernel_rfl, fun m => hR _ (hM.drewN m)⟩
      · simp (maxSteps := 1000000) (disch := first | omega | (simp only [sizeAlloc, sizeDrew, sizeSet, sizePut] <;> omega) | fail) only [GS, TT_eq, TTl, Nat.reduceAdd, Nat.reduceMul, Nat.reduceSub, Nat.reduceDiv, Nat.reduceMod, Nat.reducePow, Nat.reduceEqDiff, ↓reduceIte, reduceCtorEq, Int.reduceToNat, Int.reduceAdd, Int.reduceSub, Int.reduceMul, d0, d1, d2, d3, hp]
        rw [decide_eq_false (fun e => hp (by rw [e, hm2, Option.some.injEq, Prod.mk.injEq] at hm1; exact hm1.1.symm))] at hR
        exact ⟨by kernel_rfl, fun m => hR _ (hM.drewN m)⟩
    · have e : k = xs.length := by omega
      subst e
      have e2 : xs = ys := by rw [List.take_length] at ht; rw [ht, hl, List.take_length]
      simp (maxSteps := 1000000) (disch := first | omega | (simp only [sizeAlloc, sizeDrew, sizeSet, sizePut] <;> omega) | fail) only [GS, TT_eq, TTl, Nat.reduceAdd, Nat.reduceMul, Nat.reduceSub, Nat.reduceDiv, Nat.reduceMod, Nat.reducePow, Nat.reduceEqDiff, ↓reduceIte, reduceCtorEq, Int.reduceToNat, Int.reduceAdd, Int.reduceSub, Int.reduceMul]
      rw [decide_eq_true e2] at hR
      exact hR _ hM
  · obtain ⟨a, ca, rfl⟩ := ha.slice
    obtain ⟨b, cb, rfl⟩ := hb.slice
    refine calls_go 4000 okT Try.func70 rfl (rs := [.tmp 4]) rfl Try.ntmps70 (args := [.slice a xs.length ca, .slice b ys.length cb]) ?_
    simp (maxSteps := 1000000) (disch := first | omega | (simp only [sizeAlloc, sizeDrew, sizeSet, sizePut] <;> omega) | fail) only [GS, TT_eq, TTl, Nat.reduceAdd, Nat.reduceMul, Nat.reduceSub, Nat.reduceDiv, Nat.reduceMod, Nat.reducePow, Nat.reduceEqDiff, ↓reduceIte, reduceCtorEq, Int.reduceToNat, Int.reduceAdd, Int.reduceSub, Int.reduceMul]
    rw [decide_eq_false (fun e => hl (by rw [e]))] at hR
    exact hR _ (Mod.refl _ _)
set_option maxRecDepth 20000 in
set_option maxHeartbeats 16000000 in
theorem pSame_cps (p : Pt) (ms : Value) (m : Msg) (k : Nat) (sa : Value) (w : World) (h : PtIn w p ms) (hm : MgIn w m k sa) (R : Ending → World → Prop)
    (hR : ∀ w', Mod [] w w' → R (.returned (.bool (mayPt p && prB m k && decide (m.tx = p.tx ∧ m.aud = p.aud ∧ m.mbs = p.mbs)))) w') :
    Calls Try.prog 29 #[ptV p ms, msgV m sa] w R := by
  have hCk := fun w h => pCheck_cps p ms w h
  have hOf := fun w h => pOf_cps p ms w h
  have hPr := fun w h => pPrep_cps m k sa w h
  have hin := fun w' hM => (h.mod hM : PtIn w' p ms)
  have hmn := fun w' hM => (hm.mod hM : MgIn w' m k sa)
  have hk0 := hm.k0
  have hml := hm.len
  have hmr := hm.rd
  have os : ms.oneCell' = true := by obtain ⟨a, c, e⟩ := h.rd.slice; rw [e]; rfl
  have oa : sa.oneCell' = true := by obtain ⟨a, c, e⟩ := hm.rd.slice; rw [e]; rfl
  clear h hm
  generalize mayPt p = B at *
  generalize prB m k = P at *
  obtain ⟨⟨xa, xb, xc⟩, aud, mbs, org, body, st, tag, sent⟩ := p
  obtain ⟨k', ⟨ma, mb, mc⟩, maud, mmbs, mbody, yes, mtag⟩ := m
  simp only at hk0
  subst hk0
  unfold ptV ptC at *
  unfold msgV msgC at *
  unfold balV at hOf
  simp only at hCk hOf hPr hR hml hmr ⊢
  refine calls_go 4000 okT Try.func29 rfl (rs := [.tmp 4]) rfl Try.ntmps29 (args := [.agg #[.int .i64 xa, .int .i64 xb, .int .i64 xc, .int .i64 aud, ms, .int .i64 org, .string ⟨body.toArray⟩, .int .u8 st, .string ⟨tag.toArray⟩, .int .i64 sent], .agg #[.int .u8 k, .int .i64 ma, .int .i64 mb, .int .i64 mc, .int .i64 maud, sa, .string ⟨mbody.toArray⟩, .bool yes, .string ⟨mtag.toArray⟩]]) ?_
  simp (maxSteps := 1000000) (disch := first | omega | (simp only [sizeAlloc, sizeDrew, sizeSet, sizePut] <;> omega) | fail) only [GS, TT_eq, TTl, Nat.reduceAdd, Nat.reduceMul, Nat.reduceSub, Nat.reduceDiv, Nat.reduceMod, Nat.reducePow, Nat.reduceEqDiff, ↓reduceIte, reduceCtorEq, Int.reduceToNat, Int.reduceAdd, Int.reduceSub, Int.reduceMul, os, cellsL_one os, oa, cellsL_one oa]
  generalize hW : (w.alloc (.cells #[.int .i64 xa, .int .i64 xb, .int .i64 xc, .int .i64 aud, ms, .int .i64 org, .string ⟨body.toArray⟩, .int .u8 st, .string ⟨tag.toArray⟩, .int .i64 sent] 64)).alloc (.cells #[.int .u8 k, .int .i64 ma, .int .i64 mb, .int .i64 mc, .int .i64 maud, sa, .string ⟨mbody.toArray⟩, .bool yes, .string ⟨mtag.toArray⟩] 42) = w1
  obtain ⟨hA, hB, hM0⟩ := boxes2 hW
  clear hW
  generalize hn : w.heap.size = n at *
  refine ⟨fok69, hOf _ (hin _ hM0) _ fun cv w2 hown hM2 => .inl ⟨_, rfl, hold_stop (s' := some 2) (hold_ops okT (rs := [.tmp 4]) rfl ?_)⟩⟩
  have hA2 := hM2.get hA (by simp)
  have hB2 := hM2.get hB (by simp)
  have hM02 := hM0.trans hM2 (by simp)
  have oc := ownsRow_one hown
  simp (maxSteps := 1000000) (disch := first | omega | (simp only [sizeAlloc, sizeDrew, sizeSet, sizePut] <;> omega) | fail) only [GS, TT_eq, TTl, Nat.reduceAdd, Nat.reduceMul, Nat.reduceSub, Nat.reduceDiv, Nat.reduceMod, Nat.reducePow, Nat.reduceEqDiff, ↓reduceIte, reduceCtorEq, Int.reduceToNat, Int.reduceAdd, Int.reduceSub, Int.reduceMul, oc, cellsL_one oc]
  generalize hW : (((((((w2.alloc (.cells #[.int .i64 0, .int .i64 0, .int .i64 0, .int .i64 0, .slice none 0 0, .int .i64 0] 116)).setCell ⟨w2.heap.size, 0, none⟩ (.int .i64 xa)).setCell ⟨w2.heap.size, 1, none⟩ (.int .i64 xb)).setCell ⟨w2.heap.size, 2, none⟩ (.int .i64 xc)).setCell ⟨w2.heap.size, 3, none⟩ (.int .i64 aud)).setCell ⟨w2.heap.size, 4, none⟩ (cv)).setCell ⟨w2.heap.size, 5, none⟩ (.int .i64 org)) = w3
  obtain ⟨hD, hM23⟩ : w3.heap[w2.heap.size]? = some (.cells #[.int .i64 xa, .int .i64 xb, .int .i64 xc, .int .i64 aud, cv, .int .i64 org] 116 (0, 0)) ∧ Mod [] w2 w3 := by
    subst hW
    exact ⟨st6z heapNew, modSet6z ((Mod.refl [] w2).alloc _) (.inr (Nat.le_refl _))⟩
  clear hW
  have hA3 := hM23.get hA2 (by simp)
  have hB3 := hM23.get hB2 (by simp)
  have hM03 := hM02.trans hM23 (by simp)
  have hown3 := ownsRow_mod hown hM23 (by simp)
  generalize w2.heap.size = b at *
  refine hold_stop (s' := none) ?_
  refine hold_code okT (rs := [.tmp 4]) rfl ?_
  have cA := fun o => cellOf (o := o) hA3
  simp (maxSteps := 1000000) (disch := first | omega | (simp only [sizeAlloc, sizeDrew, sizeSet, sizePut] <;> omega) | fail) only [GS, TT_eq, TTl, Nat.reduceAdd, Nat.reduceMul, Nat.reduceSub, Nat.reduceDiv, Nat.reduceMod, Nat.reducePow, Nat.reduceEqDiff, ↓reduceIte, reduceCtorEq, Int.reduceToNat, Int.reduceAdd, Int.reduceSub, Int.reduceMul, cA]
  refine ⟨fok31, hCk _ (hin _ hM03) _ fun w4 hM4 => .inl ⟨_, rfl, hold_ops okT (rs := [.tmp 4]) rfl ?_⟩⟩
  have hB4 := hM4.get hB3 (by simp)
  have hD4 := hM4.get hD (by simp)
  have hM04 := hM03.trans hM4 (by simp)
  have hown4 := ownsRow_mod hown3 hM4 (by simp)
  cases B
  · simp only [Bool.false_and, Bool.false_eq_true, if_false] at hR ⊢
    simp (maxSteps := 1000000) (disch := first | omega | (simp only [sizeAlloc, sizeDrew, sizeSet, sizePut] <;> omega) | fail) only [GS, TT_eq, TTl, Nat.reduceAdd, Nat.reduceMul, Nat.reduceSub, Nat.reduceDiv, Nat.reduceMod, Nat.reducePow, Nat.reduceEqDiff, ↓reduceIte, reduceCtorEq, Int.reduceToNat, Int.reduceAdd, Int.reduceSub, Int.reduceMul]
    exact hR _ hM04
  simp only [Bool.true_and, if_true] at hR ⊢
  have cB := fun o => cellOf (o := o) hB4
  simp (maxSteps := 1000000) (disch := first | omega | (simp only [sizeAlloc, sizeDrew, sizeSet, sizePut] <;> omega) | fail) only [GS, TT_eq, TTl, Nat.reduceAdd, Nat.reduceMul, Nat.reduceSub, Nat.reduceDiv, Nat.reduceMod, Nat.reducePow, Nat.reduceEqDiff, ↓reduceIte, reduceCtorEq, Int.reduceToNat, Int.reduceAdd, Int.reduceSub, Int.reduceMul, cB]
  refine ⟨fok67, hPr _ (hmn _ hM04) _ fun w5 hM5 => .inl ⟨_, rfl, hold_ops okT (rs := [.tmp 4]) rfl ?_⟩⟩
  have hB5 := hM5.get hB4 (by simp)
  have hD5 := hM5.get hD4 (by simp)
  have hM05 := hM04.trans hM5 (by simp)
  have hown5 := ownsRow_mod hown4 hM5 (by simp)
  cases P
  · simp only [Bool.false_and] at hR
    simp (maxSteps := 1000000) (disch := first | omega | (simp only [sizeAlloc, sizeDrew, sizeSet, sizePut] <;> omega) | fail) only [GS, TT_eq, TTl, Nat.reduceAdd, Nat.reduceMul, Nat.reduceSub, Nat.reduceDiv, Nat.reduceMod, Nat.reducePow, Nat.reduceEqDiff, ↓reduceIte, reduceCtorEq, Int.reduceToNat, Int.reduceAdd, Int.reduceSub, Int.reduceMul]
    exact hR _ hM05
  simp only [Bool.true_and] at hR
  have cB := fun o => cellOf (o := o) hB5
  have cD := fun o => cellOf (o := o) hD5
  have hbn : ∀ x y : Bool, bnd x (bnd y false) = false := by decide
  have hF : ∀ (Q : Prop) [Decidable Q], ¬ Q → decide Q = false := fun Q _ h => decide_eq_false h
  by_cases h_ma : ma = xa
  rotate_left
  · rw [decide_eq_false (fun h => h_ma (by have := h.1; simp only [Prod.mk.injEq] at this; exact this.1))] at hR
    simp (maxSteps := 1000000) (disch := first | omega | (simp only [sizeAlloc, sizeDrew, sizeSet, sizePut] <;> omega) | fail) only [GS, TT_eq, TTl, Nat.reduceAdd, Nat.reduceMul, Nat.reduceSub, Nat.reduceDiv, Nat.reduceMod, Nat.reducePow, Nat.reduceEqDiff, ↓reduceIte, reduceCtorEq, Int.reduceToNat, Int.reduceAdd, Int.reduceSub, Int.reduceMul, cB, cD, eq_self, h_ma]
    exact hR _ hM05
  subst h_ma
  by_cases h_mb : mb = xb
  rotate_left
  · rw [decide_eq_false (fun h => h_mb (by have := h.1; simp only [Prod.mk.injEq] at this; exact this.2.1))] at hR
    simp (maxSteps := 1000000) (disch := first | omega | (simp only [sizeAlloc, sizeDrew, sizeSet, sizePut] <;> omega) | fail) only [GS, TT_eq, TTl, Nat.reduceAdd, Nat.reduceMul, Nat.reduceSub, Nat.reduceDiv, Nat.reduceMod, Nat.reducePow, Nat.reduceEqDiff, ↓reduceIte, reduceCtorEq, Int.reduceToNat, Int.reduceAdd, Int.reduceSub, Int.reduceMul, cB, cD, eq_self, h_mb]
    exact hR _ hM05
  subst h_mb
  by_cases h_mc : mc = xc
  rotate_left
  · rw [decide_eq_false (fun h => h_mc (by have := h.1; simp only [Prod.mk.injEq] at this; exact this.2.2))] at hR
    simp (maxSteps := 1000000) (disch := first | omega | (simp only [sizeAlloc, sizeDrew, sizeSet, sizePut] <;> omega) | fail) only [GS, TT_eq, TTl, Nat.reduceAdd, Nat.reduceMul, Nat.reduceSub, Nat.reduceDiv, Nat.reduceMod, Nat.reducePow, Nat.reduceEqDiff, ↓reduceIte, reduceCtorEq, Int.reduceToNat, Int.reduceAdd, Int.reduceSub, Int.reduceMul, cB, cD, eq_self, h_mc]
    exact hR _ hM05
  subst h_mc
  by_cases h_maud : maud = aud
  rotate_left
  · rw [decide_eq_false (fun h => h_maud (h.2.1))] at hR
    simp (maxSteps := 1000000) (disch := first | omega | (simp only [sizeAlloc, sizeDrew, sizeSet, sizePut] <;> omega) | fail) only [GS, TT_eq, TTl, Nat.reduceAdd, Nat.reduceMul, Nat.reduceSub, Nat.reduceDiv, Nat.reduceMod, Nat.reducePow, Nat.reduceEqDiff, ↓reduceIte, reduceCtorEq, Int.reduceToNat, Int.reduceAdd, Int.reduceSub, Int.reduceMul, cB, cD, eq_self, h_maud]
    exact hR _ hM05
  subst h_maud
  simp (maxSteps := 1000000) (disch := first | omega | (simp only [sizeAlloc, sizeDrew, sizeSet, sizePut] <;> omega) | fail) only [GS, TT_eq, TTl, Nat.reduceAdd, Nat.reduceMul, Nat.reduceSub, Nat.reduceDiv, Nat.reduceMod, Nat.reducePow, Nat.reduceEqDiff, ↓reduceIte, reduceCtorEq, Int.reduceToNat, Int.reduceAdd, Int.reduceSub, Int.reduceMul, cB, cD, eq_self]
  refine ⟨fok70, pEqual_cps sa cv mmbs mbs _ _ hml (hmr.mod hM05 (by simp)) (Rd.own hown5) fun w6 hM6 => .inl ⟨_, rfl, hold_ops okT (rs := [.tmp 4]) rfl ?_⟩⟩
  have hM06 := hM05.trans hM6 (by simp)
  have hE : decide (((ma, mb, mc) : Tx) = (ma, mb, mc) ∧ maud = maud ∧ mmbs = mbs) = decide (mmbs = mbs) := decide_eq_decide.2 ⟨fun h => h.2.2, fun h => ⟨rfl, rfl, h⟩⟩
  rw [hE] at hR
  simp (maxSteps := 1000000) (disch := first | omega | (simp only [sizeAlloc, sizeDrew, sizeSet, sizePut] <;> omega) | fail) only [GS, TT_eq, TTl, Nat.reduceAdd, Nat.reduceMul, Nat.reduceSub, Nat.reduceDiv, Nat.reduceMod, Nat.reducePow, Nat.reduceEqDiff, ↓reduceIte, reduceCtorEq, Int.reduceToNat, Int.reduceAdd, Int.reduceSub, Int.reduceMul]
  exact hR _ hM06
end Go.Proofs.Ytpcilobbohokcaa
