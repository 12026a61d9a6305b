/-
  ForgeMore (walk).
-/
import Derived.Test.YticoollhaachfaaFmr1
set_option linter.unusedSimpArgs false
set_option linter.unusedVariables false
namespace Go.Proofs.Yticoollhaachfaa
open Go Go.Wk Go.RowKit
attribute [local irreducible] go Hold
open Go.Lib
set_option maxHeartbeats 2000000 in
theorem Same_cps (sa sb : Value) (xs ys : List (List UInt8)) (w : World) (R : Ending → World → Prop) (hx : xs.length ≤ 9223372036854775807) (ha : Rd w 1 sa xs.length (xs.map strV)) (hb : Rd w 1 sb ys.length (ys.map strV))
    (hR : ∀ n, R (.returned (.bool (decide (xs = ys)))) (w.drewN n)) : Calls Try.prog 14 #[sa, sb] w R := by
  have hR0 := hR 0
  rw [World.drewN_zero] at hR0
  have hl2 := hx
  by_cases hl : xs.length = ys.length
  · obtain ⟨a, ca, rfl⟩ := ha.slice
    obtain ⟨b, cb, rfl⟩ := hb.slice
    refine calls_go 4000 okT Try.func14 rfl (rs := [.tmp 4]) rfl Try.ntmps14 (args := [.slice a xs.length ca, .slice b ys.length cb]) ?_
    simp (config := { maxSteps := 1000000 }) (disch := first | omega | (simp only [sizeAlloc, sizeDrew, sizeSet, sizePut] <;> omega) | fail) only [GS1, GS2, GS3, GS4, GS5, GS6, GS7, GS8, GS9, GS10, GS11, TT_eq, TTl, Nat.reduceAdd, Nat.reduceMul, Nat.reduceSub, Nat.reduceDiv, Nat.reduceMod, Nat.reducePow, Nat.reduceEqDiff, ↓reduceIte, reduceCtorEq, true_and, and_true, and_self, false_and, and_false, Int.reduceToNat, Int.reduceAdd, Int.reduceSub, Int.reduceMul, cond_true, cond_false, List.toList_toArray, Option.map_some, Option.map_none, Option.some.injEq, List.cons_append, List.nil_append, List.length_cons, List.length_nil, List.getD_cons_zero, List.getD_cons_succ]
    refine hold_loop okT (rs := [.tmp 4]) rfl [5] [4, 11, 12, 13, 14, 15, 16, 17, 18, 19, 20, 21, 22, 23, 24, 25] (fun vs w' => ∃ k n : Nat, k ≤ xs.length ∧ vs = [.int .i64 k] ∧ w' = w.drewN n ∧ xs.take k = ys.take k) (fun vs _ => match vs with | [.int _ i] => xs.length - i.toNat | _ => 0) (by kernel_rfl) ⟨0, 0, by omega, rfl, rfl, by simp⟩ ?_
    rintro vs w' J ⟨k, n, hk, rfl, rfl, ht⟩
    by_cases hlt : k < xs.length
    · obtain ⟨b1, o1, c1, e1, _, g1⟩ := ha.at (by omega) (by omega)
      obtain ⟨b2, o2, c2, e2, _, g2⟩ := hb.at (by omega) (by omega)
      have f1 := g1 k _ (getS hlt)
      have f2 := g2 k _ (getS (hl ▸ hlt))
      rw [Value.slice.injEq] at e1 e2
      obtain ⟨rfl, -, -⟩ := e1
      obtain ⟨rfl, -, -⟩ := e2
      by_cases he : xs[k] = ys[k]
      · simp (config := { maxSteps := 1000000 }) (disch := first | omega | (simp only [sizeAlloc, sizeDrew, sizeSet, sizePut] <;> omega) | fail) only [GS1, GS2, GS3, GS4, GS5, GS6, GS7, GS8, GS9, GS10, GS11, TT_eq, TTl, Nat.reduceAdd, Nat.reduceMul, Nat.reduceSub, Nat.reduceDiv, Nat.reduceMod, Nat.reducePow, Nat.reduceEqDiff, ↓reduceIte, reduceCtorEq, true_and, and_true, and_self, false_and, and_false, Int.reduceToNat, Int.reduceAdd, Int.reduceSub, Int.reduceMul, cond_true, cond_false, List.toList_toArray, Option.map_some, Option.map_none, Option.some.injEq, List.cons_append, List.nil_append, List.length_cons, List.length_nil, List.getD_cons_zero, List.getD_cons_succ, f1, f2, he]
        refine ⟨by kernel_rfl, fun m => ⟨⟨k + 1, n + m, by omega, rfl, rfl, ?_⟩, by omega⟩⟩
        rw [List.take_succ_eq_append_getElem hlt, List.take_succ_eq_append_getElem (hl ▸ hlt), ht, he]
      · simp (config := { maxSteps := 1000000 }) (disch := first | omega | (simp only [sizeAlloc, sizeDrew, sizeSet, sizePut] <;> omega) | fail) only [GS1, GS2, GS3, GS4, GS5, GS6, GS7, GS8, GS9, GS10, GS11, TT_eq, TTl, Nat.reduceAdd, Nat.reduceMul, Nat.reduceSub, Nat.reduceDiv, Nat.reduceMod, Nat.reducePow, Nat.reduceEqDiff, ↓reduceIte, reduceCtorEq, true_and, and_true, and_self, false_and, and_false, Int.reduceToNat, Int.reduceAdd, Int.reduceSub, Int.reduceMul, cond_true, cond_false, List.toList_toArray, Option.map_some, Option.map_none, Option.some.injEq, List.cons_append, List.nil_append, List.length_cons, List.length_nil, List.getD_cons_zero, List.getD_cons_succ, f1, f2, he]
        rw [decide_eq_false (fun e => he (by subst e; rfl))] at hR
        exact ⟨by kernel_rfl, fun m => hR _⟩
    · have e : k = xs.length := by omega
      subst e
      have e2 : xs = ys := by rw [List.take_length] at ht; rw [ht, hl, List.take_length]
      simp (config := { maxSteps := 1000000 }) (disch := first | omega | (simp only [sizeAlloc, sizeDrew, sizeSet, sizePut] <;> omega) | fail) only [GS1, GS2, GS3, GS4, GS5, GS6, GS7, GS8, GS9, GS10, GS11, TT_eq, TTl, Nat.reduceAdd, Nat.reduceMul, Nat.reduceSub, Nat.reduceDiv, Nat.reduceMod, Nat.reducePow, Nat.reduceEqDiff, ↓reduceIte, reduceCtorEq, true_and, and_true, and_self, false_and, and_false, Int.reduceToNat, Int.reduceAdd, Int.reduceSub, Int.reduceMul, cond_true, cond_false, List.toList_toArray, Option.map_some, Option.map_none, Option.some.injEq, List.cons_append, List.nil_append, List.length_cons, List.length_nil, List.getD_cons_zero, List.getD_cons_succ]
      rw [decide_eq_true e2] at hR
      exact hR n
  · obtain ⟨a, ca, rfl⟩ := ha.slice
    obtain ⟨b, cb, rfl⟩ := hb.slice
    refine calls_go 4000 okT Try.func14 rfl (rs := [.tmp 4]) rfl Try.ntmps14 (args := [.slice a xs.length ca, .slice b ys.length cb]) ?_
    simp (config := { maxSteps := 1000000 }) (disch := first | omega | (simp only [sizeAlloc, sizeDrew, sizeSet, sizePut] <;> omega) | fail) only [GS1, GS2, GS3, GS4, GS5, GS6, GS7, GS8, GS9, GS10, GS11, TT_eq, TTl, Nat.reduceAdd, Nat.reduceMul, Nat.reduceSub, Nat.reduceDiv, Nat.reduceMod, Nat.reducePow, Nat.reduceEqDiff, ↓reduceIte, reduceCtorEq, true_and, and_true, and_self, false_and, and_false, Int.reduceToNat, Int.reduceAdd, Int.reduceSub, Int.reduceMul, cond_true, cond_false, List.toList_toArray, Option.map_some, Option.map_none, Option.some.injEq, List.cons_append, List.nil_append, List.length_cons, List.length_nil, List.getD_cons_zero, List.getD_cons_succ]
    rw [decide_eq_false (fun e => hl (by rw [e]))] at hR0
    exact hR0

def longS (l : List (List UInt8)) : Bool := decide (40 < l.length) || l.any fun s => decide (20000 < s.length)
set_option maxHeartbeats 8000000 in
theorem more_cps (pa qa ma na : Value) (p q : List (List UInt8)) (m n : List Stp) (w : World) (R : Ending → World → Prop) (hp : Rd w 1 pa p.length (p.map strV)) (hps : ∀ s ∈ p, s.length ≤ maxLen) (hpl : p.length ≤ 9223372036854775807) (hq : Rd w 1 qa q.length (q.map strV)) (hqs : ∀ s ∈ q, s.length ≤ maxLen) (hql : q.length ≤ 9223372036854775807)
    (hm : RdS w ma m) (hml : m.length ≤ 9223372036854775807) (hn : RdS w na n) (hnl : n.length ≤ 9223372036854775807)
    (hR : ∀ w', Mod [] w w' → R (.returned (.bool true)) w') : Calls Try.prog 4 #[pa, qa, ma, na] w R := by
  obtain ⟨a2, c2, rfl⟩ := hm.rd.slice
  obtain ⟨a3, c3, rfl⟩ := hn.rd.slice
  refine calls_go 4000 okT Try.func4 rfl (rs := [.tmp 8]) rfl Try.ntmps4 (args := [pa, qa, .slice a2 m.length c2, .slice a3 n.length c3]) ?_
  simp (config := { maxSteps := 1000000 }) (disch := first | omega | (simp only [sizeAlloc, sizeDrew, sizeSet, sizePut] <;> omega) | fail) only [GS1, GS2, GS3, GS4, GS5, GS6, GS7, GS8, GS9, GS10, GS11, TT_eq, TTl, Nat.reduceAdd, Nat.reduceMul, Nat.reduceSub, Nat.reduceDiv, Nat.reduceMod, Nat.reducePow, Nat.reduceEqDiff, ↓reduceIte, reduceCtorEq, true_and, and_true, and_self, false_and, and_false, Int.reduceToNat, Int.reduceAdd, Int.reduceSub, Int.reduceMul, cond_true, cond_false, List.toList_toArray, Option.map_some, Option.map_none, Option.some.injEq, List.cons_append, List.nil_append, List.length_cons, List.length_nil, List.getD_cons_zero, List.getD_cons_succ]
  refine ⟨fok7, Long10_cps pa p _ _ hpl hps hp fun b1 hb1 => .inl ⟨_, rfl, hold_ops okT (rs := [.tmp 8]) rfl ?_⟩⟩
  cases b1
  · simp (config := { maxSteps := 1000000 }) (disch := first | omega | (simp only [sizeAlloc, sizeDrew, sizeSet, sizePut] <;> omega) | fail) only [GS1, GS2, GS3, GS4, GS5, GS6, GS7, GS8, GS9, GS10, GS11, TT_eq, TTl, Nat.reduceAdd, Nat.reduceMul, Nat.reduceSub, Nat.reduceDiv, Nat.reduceMod, Nat.reducePow, Nat.reduceEqDiff, ↓reduceIte, reduceCtorEq, true_and, and_true, and_self, false_and, and_false, Int.reduceToNat, Int.reduceAdd, Int.reduceSub, Int.reduceMul, cond_true, cond_false, List.toList_toArray, Option.map_some, Option.map_none, Option.some.injEq, List.cons_append, List.nil_append, List.length_cons, List.length_nil, List.getD_cons_zero, List.getD_cons_succ]
    refine ⟨fok7, Long10_cps qa q _ _ hql hqs hq fun b2 hb2 => .inl ⟨_, rfl, hold_ops okT (rs := [.tmp 8]) rfl ?_⟩⟩
    cases b2
    · simp (config := { maxSteps := 1000000 }) (disch := first | omega | (simp only [sizeAlloc, sizeDrew, sizeSet, sizePut] <;> omega) | fail) only [GS1, GS2, GS3, GS4, GS5, GS6, GS7, GS8, GS9, GS10, GS11, TT_eq, TTl, Nat.reduceAdd, Nat.reduceMul, Nat.reduceSub, Nat.reduceDiv, Nat.reduceMod, Nat.reducePow, Nat.reduceEqDiff, ↓reduceIte, reduceCtorEq, true_and, and_true, and_self, false_and, and_false, Int.reduceToNat, Int.reduceAdd, Int.reduceSub, Int.reduceMul, cond_true, cond_false, List.toList_toArray, Option.map_some, Option.map_none, Option.some.injEq, List.cons_append, List.nil_append, List.length_cons, List.length_nil, List.getD_cons_zero, List.getD_cons_succ]
      refine ⟨fok8, heavy_cps _ m _ _ hml hm fun b3 hb3 => .inl ⟨_, rfl, hold_ops okT (rs := [.tmp 8]) rfl ?_⟩⟩
      cases b3
      · simp (config := { maxSteps := 1000000 }) (disch := first | omega | (simp only [sizeAlloc, sizeDrew, sizeSet, sizePut] <;> omega) | fail) only [GS1, GS2, GS3, GS4, GS5, GS6, GS7, GS8, GS9, GS10, GS11, TT_eq, TTl, Nat.reduceAdd, Nat.reduceMul, Nat.reduceSub, Nat.reduceDiv, Nat.reduceMod, Nat.reducePow, Nat.reduceEqDiff, ↓reduceIte, reduceCtorEq, true_and, and_true, and_self, false_and, and_false, Int.reduceToNat, Int.reduceAdd, Int.reduceSub, Int.reduceMul, cond_true, cond_false, List.toList_toArray, Option.map_some, Option.map_none, Option.some.injEq, List.cons_append, List.nil_append, List.length_cons, List.length_nil, List.getD_cons_zero, List.getD_cons_succ]
        refine ⟨fok8, heavy_cps _ n _ _ hnl hn fun b4 hb4 => .inl ⟨_, rfl, hold_ops okT (rs := [.tmp 8]) rfl ?_⟩⟩
        cases b4
        · skip
          obtain ⟨hp1, hq1, hm1, hn1⟩ : p.length ≤ 40 ∧ q.length ≤ 40 ∧ m.length ≤ 100 ∧ n.length ≤ 100 := ⟨hb1 rfl, hb2 rfl, hb3 rfl, hb4 rfl⟩
          simp (config := { maxSteps := 1000000 }) (disch := first | omega | (simp only [sizeAlloc, sizeDrew, sizeSet, sizePut] <;> omega) | fail) only [GS1, GS2, GS3, GS4, GS5, GS6, GS7, GS8, GS9, GS10, GS11, TT_eq, TTl, Nat.reduceAdd, Nat.reduceMul, Nat.reduceSub, Nat.reduceDiv, Nat.reduceMod, Nat.reducePow, Nat.reduceEqDiff, ↓reduceIte, reduceCtorEq, true_and, and_true, and_self, false_and, and_false, Int.reduceToNat, Int.reduceAdd, Int.reduceSub, Int.reduceMul, cond_true, cond_false, List.toList_toArray, Option.map_some, Option.map_none, Option.some.injEq, List.cons_append, List.nil_append, List.length_cons, List.length_nil, List.getD_cons_zero, List.getD_cons_succ]
          refine ⟨fok12, fTerms_cps _ _ p m _ _ hp hps hpl hm (by omega) fun v1 w1 hown1 hM1 => .inl ⟨_, rfl, hold_ops okT (rs := [.tmp 8]) rfl ?_⟩⟩
          have f1 := @allT_ok p m
          have f2 := @allT_more p q m
          have f3 := @allT_app p m n
          generalize hX1 : allT p m = X1 at *
          obtain ⟨l1, at1, e1⟩ := X1
          simp only at hown1 f1 f2 f3 ⊢
          by_cases he1 : e1 = 0
          · subst he1
            obtain ⟨k1, k2⟩ := f1 rfl
            have f2 := f2 rfl
            have hr1 := Rd.own hown1
            have hpw := hp.mod hM1 (by simp)
            simp (config := { maxSteps := 1000000 }) (disch := first | omega | (simp only [sizeAlloc, sizeDrew, sizeSet, sizePut] <;> omega) | fail) only [GS1, GS2, GS3, GS4, GS5, GS6, GS7, GS8, GS9, GS10, GS11, TT_eq, TTl, Nat.reduceAdd, Nat.reduceMul, Nat.reduceSub, Nat.reduceDiv, Nat.reduceMod, Nat.reducePow, Nat.reduceEqDiff, ↓reduceIte, reduceCtorEq, true_and, and_true, and_self, false_and, and_false, Int.reduceToNat, Int.reduceAdd, Int.reduceSub, Int.reduceMul, cond_true, cond_false, List.toList_toArray, Option.map_some, Option.map_none, Option.some.injEq, List.cons_append, List.nil_append, List.length_cons, List.length_nil, List.getD_cons_zero, List.getD_cons_succ]
            refine hold_appendR okT rfl rfl rfl rfl (by decide) w1.heap.size (World.ownsRow_nil _ _ _ _) rfl rfl hpw (by intro u hu; obtain ⟨z, _, rfl⟩ := List.mem_map.1 hu; rfl) (by simp only; omega) (by unfold maxLen; omega) (Nat.le_refl _) fun v2 w2 hown2 hM2 => hold_ops okT (rs := [.tmp 8]) rfl ?_
            rw [Nat.zero_add, List.nil_append] at hown2
            have hqw := (hq.mod hM1 (by simp)).mod hM2 (by simp [Value.ownBlock])
            have hs2 := hM2.size
            simp (config := { maxSteps := 1000000 }) (disch := first | omega | (simp only [sizeAlloc, sizeDrew, sizeSet, sizePut] <;> omega) | fail) only [GS1, GS2, GS3, GS4, GS5, GS6, GS7, GS8, GS9, GS10, GS11, TT_eq, TTl, Nat.reduceAdd, Nat.reduceMul, Nat.reduceSub, Nat.reduceDiv, Nat.reduceMod, Nat.reducePow, Nat.reduceEqDiff, ↓reduceIte, reduceCtorEq, true_and, and_true, and_self, false_and, and_false, Int.reduceToNat, Int.reduceAdd, Int.reduceSub, Int.reduceMul, cond_true, cond_false, List.toList_toArray, Option.map_some, Option.map_none, Option.some.injEq, List.cons_append, List.nil_append, List.length_cons, List.length_nil, List.getD_cons_zero, List.getD_cons_succ]
            refine hold_appendR okT rfl rfl rfl rfl (by decide) w1.heap.size hown2 rfl rfl hqw (by intro u hu; obtain ⟨z, _, rfl⟩ := List.mem_map.1 hu; rfl) (by simp only; omega) (by unfold maxLen; omega) hs2 fun v3 w3 hown3 hM3 => hold_ops okT (rs := [.tmp 8]) rfl ?_
            have hM13 : Mod [] w1 w3 := (hM2.mono (by simp [Value.ownBlock])).trans hM3 fun y hy => .inr (hown2.lt y (by simpa using hy)).1
            have hM03 := hM1.trans hM13 (by simp)
            rw [← List.map_append, ← List.length_append] at hown3
            simp (config := { maxSteps := 1000000 }) (disch := first | omega | (simp only [sizeAlloc, sizeDrew, sizeSet, sizePut] <;> omega) | fail) only [GS1, GS2, GS3, GS4, GS5, GS6, GS7, GS8, GS9, GS10, GS11, TT_eq, TTl, Nat.reduceAdd, Nat.reduceMul, Nat.reduceSub, Nat.reduceDiv, Nat.reduceMod, Nat.reducePow, Nat.reduceEqDiff, ↓reduceIte, reduceCtorEq, true_and, and_true, and_self, false_and, and_false, Int.reduceToNat, Int.reduceAdd, Int.reduceSub, Int.reduceMul, cond_true, cond_false, List.toList_toArray, Option.map_some, Option.map_none, Option.some.injEq, List.cons_append, List.nil_append, List.length_cons, List.length_nil, List.getD_cons_zero, List.getD_cons_succ]
            refine ⟨fok12, fTerms_cps _ _ (p ++ q) m _ _ (Rd.own hown3) (by intro s hs; rcases List.mem_append.1 hs with h | h; exact hps s h; exact hqs s h) (by rw [List.length_append]; omega) (hm.mod hM03) (by omega) fun v4 w4 hown4 hM4 => .inl ⟨_, rfl, hold_ops okT (rs := [.tmp 8]) rfl ?_⟩⟩
            rw [f2] at hown4 ⊢
            simp only at hown4 ⊢
            have hr4 := Rd.own hown4
            have hM14 := hM13.trans hM4 (by simp)
            simp (config := { maxSteps := 1000000 }) (disch := first | omega | (simp only [sizeAlloc, sizeDrew, sizeSet, sizePut] <;> omega) | fail) only [GS1, GS2, GS3, GS4, GS5, GS6, GS7, GS8, GS9, GS10, GS11, TT_eq, TTl, Nat.reduceAdd, Nat.reduceMul, Nat.reduceSub, Nat.reduceDiv, Nat.reduceMod, Nat.reducePow, Nat.reduceEqDiff, ↓reduceIte, reduceCtorEq, true_and, and_true, and_self, false_and, and_false, Int.reduceToNat, Int.reduceAdd, Int.reduceSub, Int.reduceMul, cond_true, cond_false, List.toList_toArray, Option.map_some, Option.map_none, Option.some.injEq, List.cons_append, List.nil_append, List.length_cons, List.length_nil, List.getD_cons_zero, List.getD_cons_succ]
            refine ⟨fok14, Same_cps _ _ l1 l1 _ _ (by omega) (hr1.mod hM14 (by simp)) hr4 fun k => .inl ⟨_, rfl, hold_ops okT (rs := [.tmp 8]) rfl ?_⟩⟩
            rw [decide_eq_true rfl]
            have hM15 := hM14.drewN k
            clear hM2 hM3 hM4 hM14 hown2 hown3 hown4 hr4 hqw hpw hM13 hM03 hs2
            generalize w4.drewN k = w5 at hM15 ⊢
            have hM05 := hM1.trans hM15 (by simp)
            have hmw := hm.mod hM05
            have hz : ∀ {ys : List Stp} {v : World} {sv : Value}, RdS v sv ys → ∀ u ∈ ys.flatMap stpC, u.oneCell' = true := by
              intro ys v sv hy u hu
              obtain ⟨x, hx, hu⟩ := List.mem_flatMap.1 hu
              obtain ⟨a', c', e⟩ := (hy.el x hx).rd.slice
              simp only [stpC, List.mem_cons, List.not_mem_nil, or_false] at hu
              rcases hu with rfl | rfl | rfl | rfl | rfl | rfl | rfl <;> first | rfl | (rw [e]; rfl)
            simp (config := { maxSteps := 1000000 }) (disch := first | omega | (simp only [sizeAlloc, sizeDrew, sizeSet, sizePut] <;> omega) | fail) only [GS1, GS2, GS3, GS4, GS5, GS6, GS7, GS8, GS9, GS10, GS11, TT_eq, TTl, Nat.reduceAdd, Nat.reduceMul, Nat.reduceSub, Nat.reduceDiv, Nat.reduceMod, Nat.reducePow, Nat.reduceEqDiff, ↓reduceIte, reduceCtorEq, true_and, and_true, and_self, false_and, and_false, Int.reduceToNat, Int.reduceAdd, Int.reduceSub, Int.reduceMul, cond_true, cond_false, List.toList_toArray, Option.map_some, Option.map_none, Option.some.injEq, List.cons_append, List.nil_append, List.length_cons, List.length_nil, List.getD_cons_zero, List.getD_cons_succ]
            refine hold_appendR okT rfl rfl rfl rfl (by decide) w5.heap.size (World.ownsRow_nil _ _ _ _) rfl rfl hmw.rd (hz hmw) (by simp only; omega) (by unfold maxLen; omega) (Nat.le_refl _) fun v6 w6 hown6 hM6 => hold_ops okT (rs := [.tmp 8]) rfl ?_
            rw [Nat.zero_add, List.nil_append] at hown6
            have hnw := (hn.mod hM05).mod (hM6.mono (by simp [Value.ownBlock]))
            have hs6 := hM6.size
            simp (config := { maxSteps := 1000000 }) (disch := first | omega | (simp only [sizeAlloc, sizeDrew, sizeSet, sizePut] <;> omega) | fail) only [GS1, GS2, GS3, GS4, GS5, GS6, GS7, GS8, GS9, GS10, GS11, TT_eq, TTl, Nat.reduceAdd, Nat.reduceMul, Nat.reduceSub, Nat.reduceDiv, Nat.reduceMod, Nat.reducePow, Nat.reduceEqDiff, ↓reduceIte, reduceCtorEq, true_and, and_true, and_self, false_and, and_false, Int.reduceToNat, Int.reduceAdd, Int.reduceSub, Int.reduceMul, cond_true, cond_false, List.toList_toArray, Option.map_some, Option.map_none, Option.some.injEq, List.cons_append, List.nil_append, List.length_cons, List.length_nil, List.getD_cons_zero, List.getD_cons_succ]
            refine hold_appendR okT rfl rfl rfl rfl (by decide) w5.heap.size hown6 rfl rfl hnw.rd (hz hnw) (by simp only; omega) (by unfold maxLen; omega) hs6 fun v7 w7 hown7 hM7 => hold_ops okT (rs := [.tmp 8]) rfl ?_
            have hM57 : Mod [] w5 w7 := (hM6.mono (by simp [Value.ownBlock])).trans hM7 fun y hy => .inr (hown6.lt y (by simpa using hy)).1
            have hM07 := hM05.trans hM57 (by simp)
            have hM17 := hM15.trans hM57 (by simp)
            rw [← List.flatMap_append, ← List.length_append] at hown7
            have hx7 : RdS w7 v7 (m ++ n) := ⟨Rd.own hown7, fun x hx => by rcases List.mem_append.1 hx with h | h; exact (hm.mod hM07).el x h; exact (hn.mod hM07).el x h⟩
            simp (config := { maxSteps := 1000000 }) (disch := first | omega | (simp only [sizeAlloc, sizeDrew, sizeSet, sizePut] <;> omega) | fail) only [GS1, GS2, GS3, GS4, GS5, GS6, GS7, GS8, GS9, GS10, GS11, TT_eq, TTl, Nat.reduceAdd, Nat.reduceMul, Nat.reduceSub, Nat.reduceDiv, Nat.reduceMod, Nat.reducePow, Nat.reduceEqDiff, ↓reduceIte, reduceCtorEq, true_and, and_true, and_self, false_and, and_false, Int.reduceToNat, Int.reduceAdd, Int.reduceSub, Int.reduceMul, cond_true, cond_false, List.toList_toArray, Option.map_some, Option.map_none, Option.some.injEq, List.cons_append, List.nil_append, List.length_cons, List.length_nil, List.getD_cons_zero, List.getD_cons_succ]
            refine ⟨fok12, fTerms_cps _ _ p (m ++ n) _ _ (hp.mod hM07 (by simp)) hps hpl hx7 (by rw [List.length_append]; omega) fun v8 w8 hown8 hM8 => .inl ⟨_, rfl, hold_ops okT (rs := [.tmp 8]) rfl ?_⟩⟩
            have f3 := f3 rfl
            generalize hX3 : allT p (m ++ n) = X3 at *
            obtain ⟨l3, at3, e3⟩ := X3
            simp only at hown8 f3 ⊢
            have hr8 := Rd.own hown8
            have hM18 := hM17.trans hM8 (by simp)
            have hM08 := hM07.trans hM8 (by simp)
            have hr18 := hr1.mod hM18 (by simp)
            by_cases he3 : e3 = 0
            · subst he3
              obtain ⟨⟨t, ht⟩, h3⟩ := f3 rfl
              subst ht
              obtain ⟨a8, c8, rfl⟩ := hr8.slice
              obtain ⟨a1, c1, rfl⟩ := hr18.slice
              have hc8 := hr8.2
              rw [List.map_append] at hr8
              have hpre := Rd.pre hr8
              rw [List.length_map] at hpre
              obtain ⟨a9, c9, e9, hc9, -⟩ := hc8
              rw [Value.slice.injEq] at e9
              obtain ⟨rfl, -, rfl⟩ := e9
              have hll : (l1 ++ t).length = l1.length + t.length := List.length_append
              rw [hll] at hc9 h3 ⊢
              simp (config := { maxSteps := 1000000 }) (disch := first | omega | (simp only [sizeAlloc, sizeDrew, sizeSet, sizePut] <;> omega) | fail) only [GS1, GS2, GS3, GS4, GS5, GS6, GS7, GS8, GS9, GS10, GS11, TT_eq, TTl, Nat.reduceAdd, Nat.reduceMul, Nat.reduceSub, Nat.reduceDiv, Nat.reduceMod, Nat.reducePow, Nat.reduceEqDiff, ↓reduceIte, reduceCtorEq, true_and, and_true, and_self, false_and, and_false, Int.reduceToNat, Int.reduceAdd, Int.reduceSub, Int.reduceMul, cond_true, cond_false, List.toList_toArray, Option.map_some, Option.map_none, Option.some.injEq, List.cons_append, List.nil_append, List.length_cons, List.length_nil, List.getD_cons_zero, List.getD_cons_succ]
              refine ⟨fok14, Same_cps _ _ l1 l1 _ _ (by omega) hpre hr18 fun k9 => .inl ⟨_, rfl, hold_ops okT (rs := [.tmp 8]) rfl ?_⟩⟩
              rw [decide_eq_true rfl]
              have hM9 := hM08.drewN k9
              generalize w8.drewN k9 = w9 at hM9 ⊢
              simp (config := { maxSteps := 1000000 }) (disch := first | omega | (simp only [sizeAlloc, sizeDrew, sizeSet, sizePut] <;> omega) | fail) only [GS1, GS2, GS3, GS4, GS5, GS6, GS7, GS8, GS9, GS10, GS11, TT_eq, TTl, Nat.reduceAdd, Nat.reduceMul, Nat.reduceSub, Nat.reduceDiv, Nat.reduceMod, Nat.reducePow, Nat.reduceEqDiff, ↓reduceIte, reduceCtorEq, true_and, and_true, and_self, false_and, and_false, Int.reduceToNat, Int.reduceAdd, Int.reduceSub, Int.reduceMul, cond_true, cond_false, List.toList_toArray, Option.map_some, Option.map_none, Option.some.injEq, List.cons_append, List.nil_append, List.length_cons, List.length_nil, List.getD_cons_zero, List.getD_cons_succ]
              refine ⟨fok9, alive_cps _ _ fun wz hMz => .inl ⟨_, rfl, hold_ops okT (rs := [.tmp 8]) rfl ?_⟩⟩
              simp (config := { maxSteps := 1000000 }) (disch := first | omega | (simp only [sizeAlloc, sizeDrew, sizeSet, sizePut] <;> omega) | fail) only [GS1, GS2, GS3, GS4, GS5, GS6, GS7, GS8, GS9, GS10, GS11, TT_eq, TTl, Nat.reduceAdd, Nat.reduceMul, Nat.reduceSub, Nat.reduceDiv, Nat.reduceMod, Nat.reducePow, Nat.reduceEqDiff, ↓reduceIte, reduceCtorEq, true_and, and_true, and_self, false_and, and_false, Int.reduceToNat, Int.reduceAdd, Int.reduceSub, Int.reduceMul, cond_true, cond_false, List.toList_toArray, Option.map_some, Option.map_none, Option.some.injEq, List.cons_append, List.nil_append, List.length_cons, List.length_nil, List.getD_cons_zero, List.getD_cons_succ]
              exact hR _ (hM9.trans hMz (by simp))
            · simp (config := { maxSteps := 1000000 }) (disch := first | omega | (simp only [sizeAlloc, sizeDrew, sizeSet, sizePut] <;> omega) | fail) only [GS1, GS2, GS3, GS4, GS5, GS6, GS7, GS8, GS9, GS10, GS11, TT_eq, TTl, Nat.reduceAdd, Nat.reduceMul, Nat.reduceSub, Nat.reduceDiv, Nat.reduceMod, Nat.reducePow, Nat.reduceEqDiff, ↓reduceIte, reduceCtorEq, true_and, and_true, and_self, false_and, and_false, Int.reduceToNat, Int.reduceAdd, Int.reduceSub, Int.reduceMul, cond_true, cond_false, List.toList_toArray, Option.map_some, Option.map_none, Option.some.injEq, List.cons_append, List.nil_append, List.length_cons, List.length_nil, List.getD_cons_zero, List.getD_cons_succ, he3]
              refine ⟨fok9, alive_cps _ _ fun wz hMz => .inl ⟨_, rfl, hold_ops okT (rs := [.tmp 8]) rfl ?_⟩⟩
              simp (config := { maxSteps := 1000000 }) (disch := first | omega | (simp only [sizeAlloc, sizeDrew, sizeSet, sizePut] <;> omega) | fail) only [GS1, GS2, GS3, GS4, GS5, GS6, GS7, GS8, GS9, GS10, GS11, TT_eq, TTl, Nat.reduceAdd, Nat.reduceMul, Nat.reduceSub, Nat.reduceDiv, Nat.reduceMod, Nat.reducePow, Nat.reduceEqDiff, ↓reduceIte, reduceCtorEq, true_and, and_true, and_self, false_and, and_false, Int.reduceToNat, Int.reduceAdd, Int.reduceSub, Int.reduceMul, cond_true, cond_false, List.toList_toArray, Option.map_some, Option.map_none, Option.some.injEq, List.cons_append, List.nil_append, List.length_cons, List.length_nil, List.getD_cons_zero, List.getD_cons_succ]
              exact hR _ (hM08.trans hMz (by simp))
          · simp (config := { maxSteps := 1000000 }) (disch := first | omega | (simp only [sizeAlloc, sizeDrew, sizeSet, sizePut] <;> omega) | fail) only [GS1, GS2, GS3, GS4, GS5, GS6, GS7, GS8, GS9, GS10, GS11, TT_eq, TTl, Nat.reduceAdd, Nat.reduceMul, Nat.reduceSub, Nat.reduceDiv, Nat.reduceMod, Nat.reducePow, Nat.reduceEqDiff, ↓reduceIte, reduceCtorEq, true_and, and_true, and_self, false_and, and_false, Int.reduceToNat, Int.reduceAdd, Int.reduceSub, Int.reduceMul, cond_true, cond_false, List.toList_toArray, Option.map_some, Option.map_none, Option.some.injEq, List.cons_append, List.nil_append, List.length_cons, List.length_nil, List.getD_cons_zero, List.getD_cons_succ, he1]
            refine ⟨fok9, alive_cps _ _ fun wz hMz => .inl ⟨_, rfl, hold_ops okT (rs := [.tmp 8]) rfl ?_⟩⟩
            simp (config := { maxSteps := 1000000 }) (disch := first | omega | (simp only [sizeAlloc, sizeDrew, sizeSet, sizePut] <;> omega) | fail) only [GS1, GS2, GS3, GS4, GS5, GS6, GS7, GS8, GS9, GS10, GS11, TT_eq, TTl, Nat.reduceAdd, Nat.reduceMul, Nat.reduceSub, Nat.reduceDiv, Nat.reduceMod, Nat.reducePow, Nat.reduceEqDiff, ↓reduceIte, reduceCtorEq, true_and, and_true, and_self, false_and, and_false, Int.reduceToNat, Int.reduceAdd, Int.reduceSub, Int.reduceMul, cond_true, cond_false, List.toList_toArray, Option.map_some, Option.map_none, Option.some.injEq, List.cons_append, List.nil_append, List.length_cons, List.length_nil, List.getD_cons_zero, List.getD_cons_succ]
            exact hR _ (hM1.trans hMz (by simp))
        · skip
          simp (config := { maxSteps := 1000000 }) (disch := first | omega | (simp only [sizeAlloc, sizeDrew, sizeSet, sizePut] <;> omega) | fail) only [GS1, GS2, GS3, GS4, GS5, GS6, GS7, GS8, GS9, GS10, GS11, TT_eq, TTl, Nat.reduceAdd, Nat.reduceMul, Nat.reduceSub, Nat.reduceDiv, Nat.reduceMod, Nat.reducePow, Nat.reduceEqDiff, ↓reduceIte, reduceCtorEq, true_and, and_true, and_self, false_and, and_false, Int.reduceToNat, Int.reduceAdd, Int.reduceSub, Int.reduceMul, cond_true, cond_false, List.toList_toArray, Option.map_some, Option.map_none, Option.some.injEq, List.cons_append, List.nil_append, List.length_cons, List.length_nil, List.getD_cons_zero, List.getD_cons_succ]
          refine ⟨fok9, alive_cps _ _ fun wz hMz => .inl ⟨_, rfl, hold_ops okT (rs := [.tmp 8]) rfl ?_⟩⟩
          simp (config := { maxSteps := 1000000 }) (disch := first | omega | (simp only [sizeAlloc, sizeDrew, sizeSet, sizePut] <;> omega) | fail) only [GS1, GS2, GS3, GS4, GS5, GS6, GS7, GS8, GS9, GS10, GS11, TT_eq, TTl, Nat.reduceAdd, Nat.reduceMul, Nat.reduceSub, Nat.reduceDiv, Nat.reduceMod, Nat.reducePow, Nat.reduceEqDiff, ↓reduceIte, reduceCtorEq, true_and, and_true, and_self, false_and, and_false, Int.reduceToNat, Int.reduceAdd, Int.reduceSub, Int.reduceMul, cond_true, cond_false, List.toList_toArray, Option.map_some, Option.map_none, Option.some.injEq, List.cons_append, List.nil_append, List.length_cons, List.length_nil, List.getD_cons_zero, List.getD_cons_succ]
          exact hR _ (hMz)
      · skip
        simp (config := { maxSteps := 1000000 }) (disch := first | omega | (simp only [sizeAlloc, sizeDrew, sizeSet, sizePut] <;> omega) | fail) only [GS1, GS2, GS3, GS4, GS5, GS6, GS7, GS8, GS9, GS10, GS11, TT_eq, TTl, Nat.reduceAdd, Nat.reduceMul, Nat.reduceSub, Nat.reduceDiv, Nat.reduceMod, Nat.reducePow, Nat.reduceEqDiff, ↓reduceIte, reduceCtorEq, true_and, and_true, and_self, false_and, and_false, Int.reduceToNat, Int.reduceAdd, Int.reduceSub, Int.reduceMul, cond_true, cond_false, List.toList_toArray, Option.map_some, Option.map_none, Option.some.injEq, List.cons_append, List.nil_append, List.length_cons, List.length_nil, List.getD_cons_zero, List.getD_cons_succ]
        refine ⟨fok9, alive_cps _ _ fun wz hMz => .inl ⟨_, rfl, hold_ops okT (rs := [.tmp 8]) rfl ?_⟩⟩
        simp (config := { maxSteps := 1000000 }) (disch := first | omega | (simp only [sizeAlloc, sizeDrew, sizeSet, sizePut] <;> omega) | fail) only [GS1, GS2, GS3, GS4, GS5, GS6, GS7, GS8, GS9, GS10, GS11, TT_eq, TTl, Nat.reduceAdd, Nat.reduceMul, Nat.reduceSub, Nat.reduceDiv, Nat.reduceMod, Nat.reducePow, Nat.reduceEqDiff, ↓reduceIte, reduceCtorEq, true_and, and_true, and_self, false_and, and_false, Int.reduceToNat, Int.reduceAdd, Int.reduceSub, Int.reduceMul, cond_true, cond_false, List.toList_toArray, Option.map_some, Option.map_none, Option.some.injEq, List.cons_append, List.nil_append, List.length_cons, List.length_nil, List.getD_cons_zero, List.getD_cons_succ]
        exact hR _ (hMz)
    · skip
      simp (config := { maxSteps := 1000000 }) (disch := first | omega | (simp only [sizeAlloc, sizeDrew, sizeSet, sizePut] <;> omega) | fail) only [GS1, GS2, GS3, GS4, GS5, GS6, GS7, GS8, GS9, GS10, GS11, TT_eq, TTl, Nat.reduceAdd, Nat.reduceMul, Nat.reduceSub, Nat.reduceDiv, Nat.reduceMod, Nat.reducePow, Nat.reduceEqDiff, ↓reduceIte, reduceCtorEq, true_and, and_true, and_self, false_and, and_false, Int.reduceToNat, Int.reduceAdd, Int.reduceSub, Int.reduceMul, cond_true, cond_false, List.toList_toArray, Option.map_some, Option.map_none, Option.some.injEq, List.cons_append, List.nil_append, List.length_cons, List.length_nil, List.getD_cons_zero, List.getD_cons_succ]
      refine ⟨fok9, alive_cps _ _ fun wz hMz => .inl ⟨_, rfl, hold_ops okT (rs := [.tmp 8]) rfl ?_⟩⟩
      simp (config := { maxSteps := 1000000 }) (disch := first | omega | (simp only [sizeAlloc, sizeDrew, sizeSet, sizePut] <;> omega) | fail) only [GS1, GS2, GS3, GS4, GS5, GS6, GS7, GS8, GS9, GS10, GS11, TT_eq, TTl, Nat.reduceAdd, Nat.reduceMul, Nat.reduceSub, Nat.reduceDiv, Nat.reduceMod, Nat.reducePow, Nat.reduceEqDiff, ↓reduceIte, reduceCtorEq, true_and, and_true, and_self, false_and, and_false, Int.reduceToNat, Int.reduceAdd, Int.reduceSub, Int.reduceMul, cond_true, cond_false, List.toList_toArray, Option.map_some, Option.map_none, Option.some.injEq, List.cons_append, List.nil_append, List.length_cons, List.length_nil, List.getD_cons_zero, List.getD_cons_succ]
      exact hR _ (hMz)
  · skip
    simp (config := { maxSteps := 1000000 }) (disch := first | omega | (simp only [sizeAlloc, sizeDrew, sizeSet, sizePut] <;> omega) | fail) only [GS1, GS2, GS3, GS4, GS5, GS6, GS7, GS8, GS9, GS10, GS11, TT_eq, TTl, Nat.reduceAdd, Nat.reduceMul, Nat.reduceSub, Nat.reduceDiv, Nat.reduceMod, Nat.reducePow, Nat.reduceEqDiff, ↓reduceIte, reduceCtorEq, true_and, and_true, and_self, false_and, and_false, Int.reduceToNat, Int.reduceAdd, Int.reduceSub, Int.reduceMul, cond_true, cond_false, List.toList_toArray, Option.map_some, Option.map_none, Option.some.injEq, List.cons_append, List.nil_append, List.length_cons, List.length_nil, List.getD_cons_zero, List.getD_cons_succ]
    refine ⟨fok9, alive_cps _ _ fun wz hMz => .inl ⟨_, rfl, hold_ops okT (rs := [.tmp 8]) rfl ?_⟩⟩
    simp (config := { maxSteps := 1000000 }) (disch := first | omega | (simp only [sizeAlloc, sizeDrew, sizeSet, sizePut] <;> omega) | fail) only [GS1, GS2, GS3, GS4, GS5, GS6, GS7, GS8, GS9, GS10, GS11, TT_eq, TTl, Nat.reduceAdd, Nat.reduceMul, Nat.reduceSub, Nat.reduceDiv, Nat.reduceMod, Nat.reducePow, Nat.reduceEqDiff, ↓reduceIte, reduceCtorEq, true_and, and_true, and_self, false_and, and_false, Int.reduceToNat, Int.reduceAdd, Int.reduceSub, Int.reduceMul, cond_true, cond_false, List.toList_toArray, Option.map_some, Option.map_none, Option.some.injEq, List.cons_append, List.nil_append, List.length_cons, List.length_nil, List.getD_cons_zero, List.getD_cons_succ]
    exact hR _ (hMz)
end Go.Proofs.Yticoollhaachfaa
