/-
  wire.Check (walk).
-/
import Derived.Test.YtpcilobbohokcaaWirF
set_option linter.unusedSimpArgs false
set_option linter.unusedVariables false
namespace Go.Proofs.Ytpcilobbohokcaa
open Go Go.Wk Go.RowKit
attribute [local irreducible] go Hold
open Go.Lib
def fnAt (k : Nat) : Nat := match k with
  | 1 => 97
  | 2 => 102
  | 3 => 107
  | _ => 121
def formB (k : Nat) (m : Msg) : Bool := match k with
  | 1 => k1B m
  | 2 => k4B m
  | _ => true
theorem fn_ok (k : Nat) : FOk Try.prog (fnAt k) := by
  unfold fnAt
  split
  · exact fok97
  · exact fok102
  · exact fok107
  · exact fok121
theorem wForm_cps (k : Nat) (m : Msg) (sa : Value) (hB : m.body.length ≤ maxLen) (hT : m.tag.length ≤ maxLen) (hl : m.mbs.length ≤ 1000000) (hd : ∀ x ∈ m.mbs, x.2.length ≤ maxLen) (w : World) (ha : Rd w 2 sa m.mbs.length (m.mbs.flatMap mbC)) (R : Ending → World → Prop) (hR : ∀ w', Mod [] w w' → R (.returned (.bool (formB k m))) w') : Calls Try.prog (fnAt k) #[msgV m sa] w R := by
  unfold fnAt
  unfold formB at hR
  split at hR
  · exact wK1_cps m sa hB hl hd w ha R hR
  · exact wK4_cps m sa hT w R hR
  · rename_i h1 h2
    split
    · exact absurd rfl h1
    · exact absurd rfl h2
    · exact wK7_cps m sa w R hR
    · exact wP1_cps m sa w R hR
theorem kdAt_fn (k : Nat) (h : 1 ≤ k ∧ k ≤ 6) : ∃ mn mx b c, kdAt k = .agg #[.string ⟨(wordS k).toArray⟩, .int .i64 mn, .int .i64 mx, .func (.func (fnAt k)) #[] #[], b, c] ∧ b.oneCell' = true ∧ c.oneCell' = true := by
  obtain ⟨h1, h2⟩ := h
  have : k = 1 ∨ k = 2 ∨ k = 3 ∨ k = 4 ∨ k = 5 ∨ k = 6 := by omega
  rcases this with rfl | rfl | rfl | rfl | rfl | rfl <;> exact ⟨_, _, _, _, rfl, rfl, rfl⟩
def checkB (k : Nat) (m : Msg) : Bool := kdOk k && idleB m && (decide (k = 6) || txB m.tx) && formB k m
def checkE (k : Nat) (m : Msg) : Int := if checkB k m = true then 0 else 2
set_option maxRecDepth 20000 in
set_option maxHeartbeats 8000000 in
theorem wCheck_cps (m : Msg) (k : Nat) (hk0 : m.k = k) (hk : k < 256) (sa : Value) (hB : m.body.length ≤ maxLen) (hT : m.tag.length ≤ maxLen) (hl : m.mbs.length ≤ 1000000) (hd : ∀ x ∈ m.mbs, x.2.length ≤ maxLen) (w : World) (ha : Rd w 2 sa m.mbs.length (m.mbs.flatMap mbC)) (R : Ending → World → Prop) (hR : ∀ w', Mod [] w w' → R (.returned (.int .i64 (checkE k m))) w') : Calls Try.prog 19 #[msgV m sa] w R := by
  obtain ⟨k', ⟨a, b, c⟩, aud, mbs, body, yes, tag⟩ := m
  simp only at hk0; subst hk0
  unfold checkE checkB at hR
  have hfo := wForm_cps k ⟨k, (a, b, c), aud, mbs, body, yes, tag⟩ sa hB hT hl hd
  unfold msgV msgC at hfo ⊢
  simp only at hR hB hT hl hd ha hfo ⊢
  refine calls_go 4000 okT Try.func19 rfl (rs := [.tmp 2]) rfl Try.ntmps19 (args := [.agg #[.int .u8 k, .int .i64 a, .int .i64 b, .int .i64 c, .int .i64 aud, sa, .string ⟨body.toArray⟩, .bool yes, .string ⟨tag.toArray⟩]]) ?_
  simp (config := { maxSteps := 1000000 }) (disch := first | omega | (simp only [sizeAlloc, sizeDrew, sizeSet, sizePut] <;> omega) | fail) only [GS1, GS2, GS3, GS4, GS5, GS6, GS7, GS8, GS9, GS10, GS11, TT_eq, TTl, Nat.reduceAdd, Nat.reduceMul, Nat.reduceSub, Nat.reduceDiv, Nat.reduceMod, Nat.reducePow, Nat.reduceEqDiff, ↓reduceIte, reduceCtorEq, true_and, and_true, and_self, false_and, and_false, Int.reduceToNat, Int.reduceAdd, Int.reduceSub, Int.reduceMul, cond_true, cond_false, List.toList_toArray, Option.map_some, Option.map_none, Option.some.injEq, List.cons_append, List.nil_append, List.length_cons, List.length_nil, List.getD_cons_zero, List.getD_cons_succ]
  have hM0 := (Mod.refl [] w).alloc (.cells #[.int .u8 k, .int .i64 a, .int .i64 b, .int .i64 c, .int .i64 aud, sa, .string ⟨body.toArray⟩, .bool yes, .string ⟨tag.toArray⟩] 42)
  have hh := heapNew (w := w) (o := (.cells #[.int .u8 k, .int .i64 a, .int .i64 b, .int .i64 c, .int .i64 aud, sa, .string ⟨body.toArray⟩, .bool yes, .string ⟨tag.toArray⟩] 42))
  generalize w.alloc (.cells #[.int .u8 k, .int .i64 a, .int .i64 b, .int .i64 c, .int .i64 aud, sa, .string ⟨body.toArray⟩, .bool yes, .string ⟨tag.toArray⟩] 42) = w1 at hM0 hh ⊢
  generalize hn : w.heap.size = n at *
  refine hold_tree okT [0, 0, 2, 7, 15, 31, 31, 0, 191, 511] (.qop 1 (.qop 2 (.eff 0 (.lin [3, 4, 5, 6, 7, 8, 9]) (.eff 7 (.lin [0, 3, 4, 5, 6, 8, 9]) .stop)))) (by kernel_rfl) ?_
  have hh1 : (w1.drewN 1).heap[n]? = _ := hh
  have hM1 := hM0.drewN 1
  generalize w1.drewN 1 = w2 at *
  have c2 := fun o => cellOf (o := o) hh1
  refine ht_val okT rfl rfl (v := .pointer (some ⟨n, 0, none⟩)) (by simp (config := { maxSteps := 1000000 }) (disch := first | omega | (simp only [sizeAlloc, sizeDrew, sizeSet, sizePut] <;> omega) | fail) only [GS1, GS2, GS3, GS4, GS5, GS6, GS7, GS8, GS9, GS10, GS11, TT_eq, TTl, Nat.reduceAdd, Nat.reduceMul, Nat.reduceSub, Nat.reduceDiv, Nat.reduceMod, Nat.reducePow, Nat.reduceEqDiff, ↓reduceIte, reduceCtorEq, true_and, and_true, and_self, false_and, and_false, Int.reduceToNat, Int.reduceAdd, Int.reduceSub, Int.reduceMul, cond_true, cond_false, List.toList_toArray, Option.map_some, Option.map_none, Option.some.injEq, List.cons_append, List.nil_append, List.length_cons, List.length_nil, List.getD_cons_zero, List.getD_cons_succ]) ?_
  refine ht_val okT rfl rfl (v := .int .u8 k) (by simp (config := { maxSteps := 1000000 }) (disch := first | omega | (simp only [sizeAlloc, sizeDrew, sizeSet, sizePut] <;> omega) | fail) only [GS1, GS2, GS3, GS4, GS5, GS6, GS7, GS8, GS9, GS10, GS11, TT_eq, TTl, Nat.reduceAdd, Nat.reduceMul, Nat.reduceSub, Nat.reduceDiv, Nat.reduceMod, Nat.reducePow, Nat.reduceEqDiff, ↓reduceIte, reduceCtorEq, true_and, and_true, and_self, false_and, and_false, Int.reduceToNat, Int.reduceAdd, Int.reduceSub, Int.reduceMul, cond_true, cond_false, List.toList_toArray, Option.map_some, Option.map_none, Option.some.injEq, List.cons_append, List.nil_append, List.length_cons, List.length_nil, List.getD_cons_zero, List.getD_cons_succ, c2]) ?_
  have hkd : ∃ mn mx fa fb fc, kdAt k = .agg #[.string ⟨(wordS k).toArray⟩, .int .i64 mn, .int .i64 mx, fa, fb, fc] ∧ fa.oneCell' = true ∧ fb.oneCell' = true ∧ fc.oneCell' = true ∧ (kdOk k = true → fa = .func (.func (fnAt k)) #[] #[]) := by
    by_cases h9 : 1 ≤ k ∧ k ≤ 6
    · obtain ⟨mn, mx, fb, fc, e, h2, h3⟩ := kdAt_fn k h9
      exact ⟨mn, mx, _, fb, fc, e, rfl, h2, h3, fun _ => rfl⟩
    · obtain ⟨mn, mx, fa, fb, fc, e, h1, h2, h3⟩ := kdAt_eq k
      exact ⟨mn, mx, fa, fb, fc, e, h1, h2, h3, fun h => absurd (of_decide_eq_true h) h9⟩
  obtain ⟨mn, mx, fa, fb, fc, e, oa, ob, oc, hfa⟩ := hkd
  refine ht_call okT rfl rfl ?_ ?_
  · simp (config := { maxSteps := 1000000 }) (disch := first | omega | (simp only [sizeAlloc, sizeDrew, sizeSet, sizePut] <;> omega) | fail) only [GS1, GS2, GS3, GS4, GS5, GS6, GS7, GS8, GS9, GS10, GS11, TT_eq, TTl, Nat.reduceAdd, Nat.reduceMul, Nat.reduceSub, Nat.reduceDiv, Nat.reduceMod, Nat.reducePow, Nat.reduceEqDiff, ↓reduceIte, reduceCtorEq, true_and, and_true, and_self, false_and, and_false, Int.reduceToNat, Int.reduceAdd, Int.reduceSub, Int.reduceMul, cond_true, cond_false, List.toList_toArray, Option.map_some, Option.map_none, Option.some.injEq, List.cons_append, List.nil_append, List.length_cons, List.length_nil, List.getD_cons_zero, List.getD_cons_succ]
    refine ⟨fok57, wKinds_cps _ _ fun m w3 hm hmn hM => .inl ⟨_, rfl, cellM (c2 0) hM, ?_⟩⟩
    have hh3 := hM.get hh1 (by simp)
    have hM3 := hM1.trans hM (by simp)
    have c3 := fun o => cellOf (o := o) hh3
    refine ht_lin rfl (hold_dops okT (rs := [.tmp 2]) rfl ?_)
    have hl0 := look_w true hm.at hk
    rw [e] at hl0
    simp only [if_true] at hl0
    have hlt := hm.lt
    simp (config := { maxSteps := 1000000 }) (disch := first | omega | (simp only [sizeAlloc, sizeDrew, sizeSet, sizePut] <;> omega) | fail) only [GS1, GS2, GS3, GS4, GS5, GS6, GS7, GS8, GS9, GS10, GS11, TT_eq, TTl, Nat.reduceAdd, Nat.reduceMul, Nat.reduceSub, Nat.reduceDiv, Nat.reduceMod, Nat.reducePow, Nat.reduceEqDiff, ↓reduceIte, reduceCtorEq, true_and, and_true, and_self, false_and, and_false, Int.reduceToNat, Int.reduceAdd, Int.reduceSub, Int.reduceMul, cond_true, cond_false, List.toList_toArray, Option.map_some, Option.map_none, Option.some.injEq, List.cons_append, List.nil_append, List.length_cons, List.length_nil, List.getD_cons_zero, List.getD_cons_succ, hl0, c3, oa, ob, oc]
    have hMa := (Mod.refl [] w3).alloc (.cells #[.string ⟨#[]⟩, .int .i64 0, .int .i64 0, .nilFunc, .nilFunc, .nilFunc] 102)
    refine ⟨⟨by rw [lookAlloc hlt]; exact hl0, cellM (c3 0) hMa⟩, ?_⟩
    have hnb : n < w3.heap.size := (Array.getElem?_eq_some_iff.1 hh3).1
    have hwb := hM3.size
    have hbW := st6 (heapNew (w := w3) (o := (.cells #[.string ⟨#[]⟩, .int .i64 0, .int .i64 0, .nilFunc, .nilFunc, .nilFunc] 102))) (x := .string ⟨(wordS k).toArray⟩) (y := .int .i64 mn) (z := .int .i64 mx) (u := fa) (v := fb) (q := fc)
    have hhW : (((((((w3.alloc (.cells #[.string ⟨#[]⟩, .int .i64 0, .int .i64 0, .nilFunc, .nilFunc, .nilFunc] 102)).setCell ⟨w3.heap.size, 0, none⟩ (.string ⟨(wordS k).toArray⟩)).setCell ⟨w3.heap.size, 1, none⟩ (.int .i64 mn)).setCell ⟨w3.heap.size, 2, none⟩ (.int .i64 mx)).setCell ⟨w3.heap.size, 3, none⟩ fa).setCell ⟨w3.heap.size, 4, none⟩ fb).setCell ⟨w3.heap.size, 5, none⟩ fc).heap[n]? = _ := (heapSetNe (heapSetNe (heapSetNe (heapSetNe (heapSetNe (heapSetNe (hMa.get hh3 (by simp)) (by omega)) (by omega)) (by omega)) (by omega)) (by omega)) (by omega))
    have hMW : Mod [] w _ := (((((((hM3.alloc (.cells #[.string ⟨#[]⟩, .int .i64 0, .int .i64 0, .nilFunc, .nilFunc, .nilFunc] 102)).set (p := ⟨w3.heap.size, 0, none⟩) (.inr hwb) (.string ⟨(wordS k).toArray⟩)).set (p := ⟨w3.heap.size, 1, none⟩) (.inr hwb) (.int .i64 mn)).set (p := ⟨w3.heap.size, 2, none⟩) (.inr hwb) (.int .i64 mx)).set (p := ⟨w3.heap.size, 3, none⟩) (.inr hwb) fa).set (p := ⟨w3.heap.size, 4, none⟩) (.inr hwb) fb).set (p := ⟨w3.heap.size, 5, none⟩) (.inr hwb) fc)
    revert hbW hhW hMW
    generalize (((((((w3.alloc (.cells #[.string ⟨#[]⟩, .int .i64 0, .int .i64 0, .nilFunc, .nilFunc, .nilFunc] 102)).setCell ⟨w3.heap.size, 0, none⟩ (.string ⟨(wordS k).toArray⟩)).setCell ⟨w3.heap.size, 1, none⟩ (.int .i64 mn)).setCell ⟨w3.heap.size, 2, none⟩ (.int .i64 mx)).setCell ⟨w3.heap.size, 3, none⟩ fa).setCell ⟨w3.heap.size, 4, none⟩ fb).setCell ⟨w3.heap.size, 5, none⟩ fc) = w6
    intro hbW hhW hMW
    generalize w3.heap.size = b4 at hnb hwb hbW ⊢
    have cW := fun o => cellOf (o := o) hhW
    cases hko : kdOk k
    · simp only [hko, Bool.false_and, Bool.false_eq_true, if_false] at hR
      simp (config := { maxSteps := 1000000 }) (disch := first | omega | (simp only [sizeAlloc, sizeDrew, sizeSet, sizePut] <;> omega) | fail) only [GS1, GS2, GS3, GS4, GS5, GS6, GS7, GS8, GS9, GS10, GS11, TT_eq, TTl, Nat.reduceAdd, Nat.reduceMul, Nat.reduceSub, Nat.reduceDiv, Nat.reduceMod, Nat.reducePow, Nat.reduceEqDiff, ↓reduceIte, reduceCtorEq, true_and, and_true, and_self, false_and, and_false, Int.reduceToNat, Int.reduceAdd, Int.reduceSub, Int.reduceMul, cond_true, cond_false, List.toList_toArray, Option.map_some, Option.map_none, Option.some.injEq, List.cons_append, List.nil_append, List.length_cons, List.length_nil, List.getD_cons_zero, List.getD_cons_succ, cW, hko]
      exact hR _ hMW
    · have hf1 := hfa hko
      subst hf1
      simp only [hko, Bool.true_and] at hR
      simp (config := { maxSteps := 1000000 }) (disch := first | omega | (simp only [sizeAlloc, sizeDrew, sizeSet, sizePut] <;> omega) | fail) only [GS1, GS2, GS3, GS4, GS5, GS6, GS7, GS8, GS9, GS10, GS11, TT_eq, TTl, Nat.reduceAdd, Nat.reduceMul, Nat.reduceSub, Nat.reduceDiv, Nat.reduceMod, Nat.reducePow, Nat.reduceEqDiff, ↓reduceIte, reduceCtorEq, true_and, and_true, and_self, false_and, and_false, Int.reduceToNat, Int.reduceAdd, Int.reduceSub, Int.reduceMul, cond_true, cond_false, List.toList_toArray, Option.map_some, Option.map_none, Option.some.injEq, List.cons_append, List.nil_append, List.length_cons, List.length_nil, List.getD_cons_zero, List.getD_cons_succ, cW, hko]
      have hid := wIdle_cps ⟨k, (a, b, c), aud, mbs, body, yes, tag⟩ sa hl w6 (ha.mod hMW (by simp))
      unfold msgV msgC at hid
      simp only at hid
      refine ⟨fok58, hid _ fun w7 hM7 => .inl ⟨_, rfl, hold_ops okT (rs := [.tmp 2]) rfl ?_⟩⟩
      have hh7 := hM7.get hhW (by simp)
      have hb7 := hM7.get hbW (by simp)
      have hMx := hMW.trans hM7 (by simp)
      have c7 := fun o => cellOf (o := o) hh7
      have d7 := fun o => cellOf (o := o) hb7
      cases hi : idleB ⟨k, (a, b, c), aud, mbs, body, yes, tag⟩
      · simp only [hi, Bool.false_and, Bool.false_eq_true, if_false] at hR
        simp (config := { maxSteps := 1000000 }) (disch := first | omega | (simp only [sizeAlloc, sizeDrew, sizeSet, sizePut] <;> omega) | fail) only [GS1, GS2, GS3, GS4, GS5, GS6, GS7, GS8, GS9, GS10, GS11, TT_eq, TTl, Nat.reduceAdd, Nat.reduceMul, Nat.reduceSub, Nat.reduceDiv, Nat.reduceMod, Nat.reducePow, Nat.reduceEqDiff, ↓reduceIte, reduceCtorEq, true_and, and_true, and_self, false_and, and_false, Int.reduceToNat, Int.reduceAdd, Int.reduceSub, Int.reduceMul, cond_true, cond_false, List.toList_toArray, Option.map_some, Option.map_none, Option.some.injEq, List.cons_append, List.nil_append, List.length_cons, List.length_nil, List.getD_cons_zero, List.getD_cons_succ, c7, hi]
        exact hR _ hMx
      · simp only [hi, Bool.true_and] at hR
        by_cases h6 : (k : Int) = 6
        · have h6n : k = 6 := by omega
          rw [decide_eq_true h6n] at hR
          simp only [Bool.true_or, Bool.true_and] at hR
          simp only [h6] at hfo
          simp (config := { maxSteps := 1000000 }) (disch := first | omega | (simp only [sizeAlloc, sizeDrew, sizeSet, sizePut] <;> omega) | fail) only [GS1, GS2, GS3, GS4, GS5, GS6, GS7, GS8, GS9, GS10, GS11, TT_eq, TTl, Nat.reduceAdd, Nat.reduceMul, Nat.reduceSub, Nat.reduceDiv, Nat.reduceMod, Nat.reducePow, Nat.reduceEqDiff, ↓reduceIte, reduceCtorEq, true_and, and_true, and_self, false_and, and_false, Int.reduceToNat, Int.reduceAdd, Int.reduceSub, Int.reduceMul, cond_true, cond_false, List.toList_toArray, Option.map_some, Option.map_none, Option.some.injEq, List.cons_append, List.nil_append, List.length_cons, List.length_nil, List.getD_cons_zero, List.getD_cons_succ, c7, d7, hi, h6]
          refine ⟨fn_ok k, hfo _ (ha.mod hMx (by simp)) _ fun w9 hM9 => .inl ⟨_, rfl, hold_ops okT (rs := [.tmp 2]) rfl ?_⟩⟩
          have hMy := (hMx).trans hM9 (by simp)
          cases hfb : formB k ⟨k, (a, b, c), aud, mbs, body, yes, tag⟩
          · simp only [hfb, Bool.false_eq_true, if_false] at hR
            rw [h6] at hfb
            simp (config := { maxSteps := 1000000 }) (disch := first | omega | (simp only [sizeAlloc, sizeDrew, sizeSet, sizePut] <;> omega) | fail) only [GS1, GS2, GS3, GS4, GS5, GS6, GS7, GS8, GS9, GS10, GS11, TT_eq, TTl, Nat.reduceAdd, Nat.reduceMul, Nat.reduceSub, Nat.reduceDiv, Nat.reduceMod, Nat.reducePow, Nat.reduceEqDiff, ↓reduceIte, reduceCtorEq, true_and, and_true, and_self, false_and, and_false, Int.reduceToNat, Int.reduceAdd, Int.reduceSub, Int.reduceMul, cond_true, cond_false, List.toList_toArray, Option.map_some, Option.map_none, Option.some.injEq, List.cons_append, List.nil_append, List.length_cons, List.length_nil, List.getD_cons_zero, List.getD_cons_succ, hfb]
            exact hR _ hMy
          · simp only [hfb, if_true] at hR
            rw [h6] at hfb
            simp (config := { maxSteps := 1000000 }) (disch := first | omega | (simp only [sizeAlloc, sizeDrew, sizeSet, sizePut] <;> omega) | fail) only [GS1, GS2, GS3, GS4, GS5, GS6, GS7, GS8, GS9, GS10, GS11, TT_eq, TTl, Nat.reduceAdd, Nat.reduceMul, Nat.reduceSub, Nat.reduceDiv, Nat.reduceMod, Nat.reducePow, Nat.reduceEqDiff, ↓reduceIte, reduceCtorEq, true_and, and_true, and_self, false_and, and_false, Int.reduceToNat, Int.reduceAdd, Int.reduceSub, Int.reduceMul, cond_true, cond_false, List.toList_toArray, Option.map_some, Option.map_none, Option.some.injEq, List.cons_append, List.nil_append, List.length_cons, List.length_nil, List.getD_cons_zero, List.getD_cons_succ, hfb]
            exact hR _ hMy
        · have h6n : ¬ k = 6 := by omega
          rw [decide_eq_false h6n] at hR
          simp only [Bool.false_or] at hR
          simp (config := { maxSteps := 1000000 }) (disch := first | omega | (simp only [sizeAlloc, sizeDrew, sizeSet, sizePut] <;> omega) | fail) only [GS1, GS2, GS3, GS4, GS5, GS6, GS7, GS8, GS9, GS10, GS11, TT_eq, TTl, Nat.reduceAdd, Nat.reduceMul, Nat.reduceSub, Nat.reduceDiv, Nat.reduceMod, Nat.reducePow, Nat.reduceEqDiff, ↓reduceIte, reduceCtorEq, true_and, and_true, and_self, false_and, and_false, Int.reduceToNat, Int.reduceAdd, Int.reduceSub, Int.reduceMul, cond_true, cond_false, List.toList_toArray, Option.map_some, Option.map_none, Option.some.injEq, List.cons_append, List.nil_append, List.length_cons, List.length_nil, List.getD_cons_zero, List.getD_cons_succ, c7, d7, hi, h6]
          refine ⟨fok46, wMayTxn_cps (a, b, c) _ _ fun w8 hM8 => .inl ⟨_, rfl, hold_ops okT (rs := [.tmp 2]) rfl ?_⟩⟩
          have hh8 := hM8.get hh7 (by simp)
          have hb8 := hM8.get hb7 (by simp)
          have hMz := hMx.trans hM8 (by simp)
          have c8 := fun o => cellOf (o := o) hh8
          have d8 := fun o => cellOf (o := o) hb8
          cases htx : txB (a, b, c)
          · simp only [htx, Bool.false_and, Bool.false_eq_true, if_false] at hR
            simp (config := { maxSteps := 1000000 }) (disch := first | omega | (simp only [sizeAlloc, sizeDrew, sizeSet, sizePut] <;> omega) | fail) only [GS1, GS2, GS3, GS4, GS5, GS6, GS7, GS8, GS9, GS10, GS11, TT_eq, TTl, Nat.reduceAdd, Nat.reduceMul, Nat.reduceSub, Nat.reduceDiv, Nat.reduceMod, Nat.reducePow, Nat.reduceEqDiff, ↓reduceIte, reduceCtorEq, true_and, and_true, and_self, false_and, and_false, Int.reduceToNat, Int.reduceAdd, Int.reduceSub, Int.reduceMul, cond_true, cond_false, List.toList_toArray, Option.map_some, Option.map_none, Option.some.injEq, List.cons_append, List.nil_append, List.length_cons, List.length_nil, List.getD_cons_zero, List.getD_cons_succ, c8, d8, hi, h6, htx]
            exact hR _ hMz
          · simp only [htx, Bool.true_and] at hR
            simp (config := { maxSteps := 1000000 }) (disch := first | omega | (simp only [sizeAlloc, sizeDrew, sizeSet, sizePut] <;> omega) | fail) only [GS1, GS2, GS3, GS4, GS5, GS6, GS7, GS8, GS9, GS10, GS11, TT_eq, TTl, Nat.reduceAdd, Nat.reduceMul, Nat.reduceSub, Nat.reduceDiv, Nat.reduceMod, Nat.reducePow, Nat.reduceEqDiff, ↓reduceIte, reduceCtorEq, true_and, and_true, and_self, false_and, and_false, Int.reduceToNat, Int.reduceAdd, Int.reduceSub, Int.reduceMul, cond_true, cond_false, List.toList_toArray, Option.map_some, Option.map_none, Option.some.injEq, List.cons_append, List.nil_append, List.length_cons, List.length_nil, List.getD_cons_zero, List.getD_cons_succ, c8, d8, hi, h6, htx]
            refine ⟨fn_ok k, hfo _ (ha.mod hMz (by simp)) _ fun w9 hM9 => .inl ⟨_, rfl, hold_ops okT (rs := [.tmp 2]) rfl ?_⟩⟩
            have hMy := (hMz).trans hM9 (by simp)
            cases hfb : formB k ⟨k, (a, b, c), aud, mbs, body, yes, tag⟩
            · simp only [hfb, Bool.false_eq_true, if_false] at hR
              simp (config := { maxSteps := 1000000 }) (disch := first | omega | (simp only [sizeAlloc, sizeDrew, sizeSet, sizePut] <;> omega) | fail) only [GS1, GS2, GS3, GS4, GS5, GS6, GS7, GS8, GS9, GS10, GS11, TT_eq, TTl, Nat.reduceAdd, Nat.reduceMul, Nat.reduceSub, Nat.reduceDiv, Nat.reduceMod, Nat.reducePow, Nat.reduceEqDiff, ↓reduceIte, reduceCtorEq, true_and, and_true, and_self, false_and, and_false, Int.reduceToNat, Int.reduceAdd, Int.reduceSub, Int.reduceMul, cond_true, cond_false, List.toList_toArray, Option.map_some, Option.map_none, Option.some.injEq, List.cons_append, List.nil_append, List.length_cons, List.length_nil, List.getD_cons_zero, List.getD_cons_succ, hfb]
              exact hR _ hMy
            · simp only [hfb, if_true] at hR
              simp (config := { maxSteps := 1000000 }) (disch := first | omega | (simp only [sizeAlloc, sizeDrew, sizeSet, sizePut] <;> omega) | fail) only [GS1, GS2, GS3, GS4, GS5, GS6, GS7, GS8, GS9, GS10, GS11, TT_eq, TTl, Nat.reduceAdd, Nat.reduceMul, Nat.reduceSub, Nat.reduceDiv, Nat.reduceMod, Nat.reducePow, Nat.reduceEqDiff, ↓reduceIte, reduceCtorEq, true_and, and_true, and_self, false_and, and_false, Int.reduceToNat, Int.reduceAdd, Int.reduceSub, Int.reduceMul, cond_true, cond_false, List.toList_toArray, Option.map_some, Option.map_none, Option.some.injEq, List.cons_append, List.nil_append, List.length_cons, List.length_nil, List.getD_cons_zero, List.getD_cons_succ, hfb]
              exact hR _ hMy
  · refine ht_eff okT rfl rfl (v := .pointer (some ⟨w2.heap.size, 0, none⟩)) (w' := w2.alloc (.cells #[.string ⟨#[]⟩, .int .i64 0, .int .i64 0, .nilFunc, .nilFunc, .nilFunc] 102)) (by simp (config := { maxSteps := 1000000 }) only [GS1, GS2, GS3, GS4, GS5, GS6, GS7, GS8, GS9, GS10, GS11, TT_eq, TTl, Nat.reduceAdd, Nat.reduceMul, Nat.reduceSub, Nat.reduceDiv, Nat.reduceMod, Nat.reducePow, Nat.reduceEqDiff, ↓reduceIte, reduceCtorEq, true_and, and_true, and_self, false_and, and_false, Int.reduceToNat, Int.reduceAdd, Int.reduceSub, Int.reduceMul, cond_true, cond_false, List.toList_toArray, Option.map_some, Option.map_none, Option.some.injEq, List.cons_append, List.nil_append, List.length_cons, List.length_nil, List.getD_cons_zero, List.getD_cons_succ]) ?_ ?_ ht_stop
    all_goals have hMa := (Mod.refl [] w2).alloc (.cells #[.string ⟨#[]⟩, .int .i64 0, .int .i64 0, .nilFunc, .nilFunc, .nilFunc] 102)
    all_goals have hka := heapNew (w := w2) (o := (.cells #[.string ⟨#[]⟩, .int .i64 0, .int .i64 0, .nilFunc, .nilFunc, .nilFunc] 102))
    all_goals generalize w2.alloc (.cells #[.string ⟨#[]⟩, .int .i64 0, .int .i64 0, .nilFunc, .nilFunc, .nilFunc] 102) = w3 at hMa hka ⊢
    · simp (config := { maxSteps := 1000000 }) only [GS1, GS2, GS3, GS4, GS5, GS6, GS7, GS8, GS9, GS10, GS11, TT_eq, TTl, Nat.reduceAdd, Nat.reduceMul, Nat.reduceSub, Nat.reduceDiv, Nat.reduceMod, Nat.reducePow, Nat.reduceEqDiff, ↓reduceIte, reduceCtorEq, true_and, and_true, and_self, false_and, and_false, Int.reduceToNat, Int.reduceAdd, Int.reduceSub, Int.reduceMul, cond_true, cond_false, List.toList_toArray, Option.map_some, Option.map_none, Option.some.injEq, List.cons_append, List.nil_append, List.length_cons, List.length_nil, List.getD_cons_zero, List.getD_cons_succ]
      exact cellM (c2 0) hMa
    have hh3 := hMa.get hh1 (by simp)
    have hM3 := hM1.trans hMa (by simp)
    have c3 := fun o => cellOf (o := o) hh3
    have hnb : n < w2.heap.size := (Array.getElem?_eq_some_iff.1 hh1).1
    have hwb := hM1.size
    generalize w2.heap.size = b4 at hka hnb hwb ⊢
    simp (config := { maxSteps := 1000000 }) only [GS1, GS2, GS3, GS4, GS5, GS6, GS7, GS8, GS9, GS10, GS11, TT_eq, TTl, Nat.reduceAdd, Nat.reduceMul, Nat.reduceSub, Nat.reduceDiv, Nat.reduceMod, Nat.reducePow, Nat.reduceEqDiff, ↓reduceIte, reduceCtorEq, true_and, and_true, and_self, false_and, and_false, Int.reduceToNat, Int.reduceAdd, Int.reduceSub, Int.reduceMul, cond_true, cond_false, List.toList_toArray, Option.map_some, Option.map_none, Option.some.injEq, List.cons_append, List.nil_append, List.length_cons, List.length_nil, List.getD_cons_zero, List.getD_cons_succ]
    refine ht_lin rfl (hold_dops okT (rs := [.tmp 2]) rfl ?_)
    simp (config := { maxSteps := 1000000 }) (disch := first | omega | (simp only [sizeAlloc, sizeDrew, sizeSet, sizePut] <;> omega) | fail) only [GS1, GS2, GS3, GS4, GS5, GS6, GS7, GS8, GS9, GS10, GS11, TT_eq, TTl, Nat.reduceAdd, Nat.reduceMul, Nat.reduceSub, Nat.reduceDiv, Nat.reduceMod, Nat.reducePow, Nat.reduceEqDiff, ↓reduceIte, reduceCtorEq, true_and, and_true, and_self, false_and, and_false, Int.reduceToNat, Int.reduceAdd, Int.reduceSub, Int.reduceMul, cond_true, cond_false, List.toList_toArray, Option.map_some, Option.map_none, Option.some.injEq, List.cons_append, List.nil_append, List.length_cons, List.length_nil, List.getD_cons_zero, List.getD_cons_succ, c3]
    refine ⟨fok57, wKinds_cps _ _ fun m w4 hm hmn hM => .inl ⟨_, rfl, cellM (c3 0) hM, hold_dops okT (rs := [.tmp 2]) rfl ?_⟩⟩
    have hh4 := hM.get hh3 (by simp)
    have hk4 := hM.get hka (by simp)
    have hM4 := hM3.trans hM (by simp)
    have c4 := fun o => cellOf (o := o) hh4
    have hl0 := look_w true hm.at hk
    rw [e] at hl0
    simp only [if_true] at hl0
    simp (config := { maxSteps := 1000000 }) (disch := first | omega | (simp only [sizeAlloc, sizeDrew, sizeSet, sizePut] <;> omega) | fail) only [GS1, GS2, GS3, GS4, GS5, GS6, GS7, GS8, GS9, GS10, GS11, TT_eq, TTl, Nat.reduceAdd, Nat.reduceMul, Nat.reduceSub, Nat.reduceDiv, Nat.reduceMod, Nat.reducePow, Nat.reduceEqDiff, ↓reduceIte, reduceCtorEq, true_and, and_true, and_self, false_and, and_false, Int.reduceToNat, Int.reduceAdd, Int.reduceSub, Int.reduceMul, cond_true, cond_false, List.toList_toArray, Option.map_some, Option.map_none, Option.some.injEq, List.cons_append, List.nil_append, List.length_cons, List.length_nil, List.getD_cons_zero, List.getD_cons_succ, hl0, c4, oa, ob, oc, cellOf hk4, frozenOf hk4]
    have hbW := st6 hk4 (x := .string ⟨(wordS k).toArray⟩) (y := .int .i64 mn) (z := .int .i64 mx) (u := fa) (v := fb) (q := fc)
    have hhW : (((((((w4).setCell ⟨b4, 0, none⟩ (.string ⟨(wordS k).toArray⟩)).setCell ⟨b4, 1, none⟩ (.int .i64 mn)).setCell ⟨b4, 2, none⟩ (.int .i64 mx)).setCell ⟨b4, 3, none⟩ fa).setCell ⟨b4, 4, none⟩ fb).setCell ⟨b4, 5, none⟩ fc).heap[n]? = _ := (heapSetNe (heapSetNe (heapSetNe (heapSetNe (heapSetNe (heapSetNe hh4 (by omega)) (by omega)) (by omega)) (by omega)) (by omega)) (by omega))
    have hMW : Mod [] w _ := ((((((hM4.set (p := ⟨b4, 0, none⟩) (.inr hwb) (.string ⟨(wordS k).toArray⟩)).set (p := ⟨b4, 1, none⟩) (.inr hwb) (.int .i64 mn)).set (p := ⟨b4, 2, none⟩) (.inr hwb) (.int .i64 mx)).set (p := ⟨b4, 3, none⟩) (.inr hwb) fa).set (p := ⟨b4, 4, none⟩) (.inr hwb) fb).set (p := ⟨b4, 5, none⟩) (.inr hwb) fc)
    revert hbW hhW hMW
    generalize (((((((w4).setCell ⟨b4, 0, none⟩ (.string ⟨(wordS k).toArray⟩)).setCell ⟨b4, 1, none⟩ (.int .i64 mn)).setCell ⟨b4, 2, none⟩ (.int .i64 mx)).setCell ⟨b4, 3, none⟩ fa).setCell ⟨b4, 4, none⟩ fb).setCell ⟨b4, 5, none⟩ fc) = w6
    intro hbW hhW hMW
    have cW := fun o => cellOf (o := o) hhW
    cases hko : kdOk k
    · simp only [hko, Bool.false_and, Bool.false_eq_true, if_false] at hR
      simp (config := { maxSteps := 1000000 }) (disch := first | omega | (simp only [sizeAlloc, sizeDrew, sizeSet, sizePut] <;> omega) | fail) only [GS1, GS2, GS3, GS4, GS5, GS6, GS7, GS8, GS9, GS10, GS11, TT_eq, TTl, Nat.reduceAdd, Nat.reduceMul, Nat.reduceSub, Nat.reduceDiv, Nat.reduceMod, Nat.reducePow, Nat.reduceEqDiff, ↓reduceIte, reduceCtorEq, true_and, and_true, and_self, false_and, and_false, Int.reduceToNat, Int.reduceAdd, Int.reduceSub, Int.reduceMul, cond_true, cond_false, List.toList_toArray, Option.map_some, Option.map_none, Option.some.injEq, List.cons_append, List.nil_append, List.length_cons, List.length_nil, List.getD_cons_zero, List.getD_cons_succ, cW, hko]
      exact hR _ hMW
    · have hf1 := hfa hko
      subst hf1
      simp only [hko, Bool.true_and] at hR
      simp (config := { maxSteps := 1000000 }) (disch := first | omega | (simp only [sizeAlloc, sizeDrew, sizeSet, sizePut] <;> omega) | fail) only [GS1, GS2, GS3, GS4, GS5, GS6, GS7, GS8, GS9, GS10, GS11, TT_eq, TTl, Nat.reduceAdd, Nat.reduceMul, Nat.reduceSub, Nat.reduceDiv, Nat.reduceMod, Nat.reducePow, Nat.reduceEqDiff, ↓reduceIte, reduceCtorEq, true_and, and_true, and_self, false_and, and_false, Int.reduceToNat, Int.reduceAdd, Int.reduceSub, Int.reduceMul, cond_true, cond_false, List.toList_toArray, Option.map_some, Option.map_none, Option.some.injEq, List.cons_append, List.nil_append, List.length_cons, List.length_nil, List.getD_cons_zero, List.getD_cons_succ, cW, hko]
      have hid := wIdle_cps ⟨k, (a, b, c), aud, mbs, body, yes, tag⟩ sa hl w6 (ha.mod hMW (by simp))
      unfold msgV msgC at hid
      simp only at hid
      refine ⟨fok58, hid _ fun w7 hM7 => .inl ⟨_, rfl, hold_ops okT (rs := [.tmp 2]) rfl ?_⟩⟩
      have hh7 := hM7.get hhW (by simp)
      have hb7 := hM7.get hbW (by simp)
      have hMx := hMW.trans hM7 (by simp)
      have c7 := fun o => cellOf (o := o) hh7
      have d7 := fun o => cellOf (o := o) hb7
      cases hi : idleB ⟨k, (a, b, c), aud, mbs, body, yes, tag⟩
      · simp only [hi, Bool.false_and, Bool.false_eq_true, if_false] at hR
        simp (config := { maxSteps := 1000000 }) (disch := first | omega | (simp only [sizeAlloc, sizeDrew, sizeSet, sizePut] <;> omega) | fail) only [GS1, GS2, GS3, GS4, GS5, GS6, GS7, GS8, GS9, GS10, GS11, TT_eq, TTl, Nat.reduceAdd, Nat.reduceMul, Nat.reduceSub, Nat.reduceDiv, Nat.reduceMod, Nat.reducePow, Nat.reduceEqDiff, ↓reduceIte, reduceCtorEq, true_and, and_true, and_self, false_and, and_false, Int.reduceToNat, Int.reduceAdd, Int.reduceSub, Int.reduceMul, cond_true, cond_false, List.toList_toArray, Option.map_some, Option.map_none, Option.some.injEq, List.cons_append, List.nil_append, List.length_cons, List.length_nil, List.getD_cons_zero, List.getD_cons_succ, c7, hi]
        exact hR _ hMx
      · simp only [hi, Bool.true_and] at hR
        by_cases h6 : (k : Int) = 6
        · have h6n : k = 6 := by omega
          rw [decide_eq_true h6n] at hR
          simp only [Bool.true_or, Bool.true_and] at hR
          simp only [h6] at hfo
          simp (config := { maxSteps := 1000000 }) (disch := first | omega | (simp only [sizeAlloc, sizeDrew, sizeSet, sizePut] <;> omega) | fail) only [GS1, GS2, GS3, GS4, GS5, GS6, GS7, GS8, GS9, GS10, GS11, TT_eq, TTl, Nat.reduceAdd, Nat.reduceMul, Nat.reduceSub, Nat.reduceDiv, Nat.reduceMod, Nat.reducePow, Nat.reduceEqDiff, ↓reduceIte, reduceCtorEq, true_and, and_true, and_self, false_and, and_false, Int.reduceToNat, Int.reduceAdd, Int.reduceSub, Int.reduceMul, cond_true, cond_false, List.toList_toArray, Option.map_some, Option.map_none, Option.some.injEq, List.cons_append, List.nil_append, List.length_cons, List.length_nil, List.getD_cons_zero, List.getD_cons_succ, c7, d7, hi, h6]
          refine ⟨fn_ok k, hfo _ (ha.mod hMx (by simp)) _ fun w9 hM9 => .inl ⟨_, rfl, hold_ops okT (rs := [.tmp 2]) rfl ?_⟩⟩
          have hMy := (hMx).trans hM9 (by simp)
          cases hfb : formB k ⟨k, (a, b, c), aud, mbs, body, yes, tag⟩
          · simp only [hfb, Bool.false_eq_true, if_false] at hR
            rw [h6] at hfb
            simp (config := { maxSteps := 1000000 }) (disch := first | omega | (simp only [sizeAlloc, sizeDrew, sizeSet, sizePut] <;> omega) | fail) only [GS1, GS2, GS3, GS4, GS5, GS6, GS7, GS8, GS9, GS10, GS11, TT_eq, TTl, Nat.reduceAdd, Nat.reduceMul, Nat.reduceSub, Nat.reduceDiv, Nat.reduceMod, Nat.reducePow, Nat.reduceEqDiff, ↓reduceIte, reduceCtorEq, true_and, and_true, and_self, false_and, and_false, Int.reduceToNat, Int.reduceAdd, Int.reduceSub, Int.reduceMul, cond_true, cond_false, List.toList_toArray, Option.map_some, Option.map_none, Option.some.injEq, List.cons_append, List.nil_append, List.length_cons, List.length_nil, List.getD_cons_zero, List.getD_cons_succ, hfb]
            exact hR _ hMy
          · simp only [hfb, if_true] at hR
            rw [h6] at hfb
            simp (config := { maxSteps := 1000000 }) (disch := first | omega | (simp only [sizeAlloc, sizeDrew, sizeSet, sizePut] <;> omega) | fail) only [GS1, GS2, GS3, GS4, GS5, GS6, GS7, GS8, GS9, GS10, GS11, TT_eq, TTl, Nat.reduceAdd, Nat.reduceMul, Nat.reduceSub, Nat.reduceDiv, Nat.reduceMod, Nat.reducePow, Nat.reduceEqDiff, ↓reduceIte, reduceCtorEq, true_and, and_true, and_self, false_and, and_false, Int.reduceToNat, Int.reduceAdd, Int.reduceSub, Int.reduceMul, cond_true, cond_false, List.toList_toArray, Option.map_some, Option.map_none, Option.some.injEq, List.cons_append, List.nil_append, List.length_cons, List.length_nil, List.getD_cons_zero, List.getD_cons_succ, hfb]
            exact hR _ hMy
        · have h6n : ¬ k = 6 := by omega
          rw [decide_eq_false h6n] at hR
          simp only [Bool.false_or] at hR
          simp (config := { maxSteps := 1000000 }) (disch := first | omega | (simp only [sizeAlloc, sizeDrew, sizeSet, sizePut] <;> omega) | fail) only [GS1, GS2, GS3, GS4, GS5, GS6, GS7, GS8, GS9, GS10, GS11, TT_eq, TTl, Nat.reduceAdd, Nat.reduceMul, Nat.reduceSub, Nat.reduceDiv, Nat.reduceMod, Nat.reducePow, Nat.reduceEqDiff, ↓reduceIte, reduceCtorEq, true_and, and_true, and_self, false_and, and_false, Int.reduceToNat, Int.reduceAdd, Int.reduceSub, Int.reduceMul, cond_true, cond_false, List.toList_toArray, Option.map_some, Option.map_none, Option.some.injEq, List.cons_append, List.nil_append, List.length_cons, List.length_nil, List.getD_cons_zero, List.getD_cons_succ, c7, d7, hi, h6]
          refine ⟨fok46, wMayTxn_cps (a, b, c) _ _ fun w8 hM8 => .inl ⟨_, rfl, hold_ops okT (rs := [.tmp 2]) rfl ?_⟩⟩
          have hh8 := hM8.get hh7 (by simp)
          have hb8 := hM8.get hb7 (by simp)
          have hMz := hMx.trans hM8 (by simp)
          have c8 := fun o => cellOf (o := o) hh8
          have d8 := fun o => cellOf (o := o) hb8
          cases htx : txB (a, b, c)
          · simp only [htx, Bool.false_and, Bool.false_eq_true, if_false] at hR
            simp (config := { maxSteps := 1000000 }) (disch := first | omega | (simp only [sizeAlloc, sizeDrew, sizeSet, sizePut] <;> omega) | fail) only [GS1, GS2, GS3, GS4, GS5, GS6, GS7, GS8, GS9, GS10, GS11, TT_eq, TTl, Nat.reduceAdd, Nat.reduceMul, Nat.reduceSub, Nat.reduceDiv, Nat.reduceMod, Nat.reducePow, Nat.reduceEqDiff, ↓reduceIte, reduceCtorEq, true_and, and_true, and_self, false_and, and_false, Int.reduceToNat, Int.reduceAdd, Int.reduceSub, Int.reduceMul, cond_true, cond_false, List.toList_toArray, Option.map_some, Option.map_none, Option.some.injEq, List.cons_append, List.nil_append, List.length_cons, List.length_nil, List.getD_cons_zero, List.getD_cons_succ, c8, d8, hi, h6, htx]
            exact hR _ hMz
          · simp only [htx, Bool.true_and] at hR
            simp (config := { maxSteps := 1000000 }) (disch := first | omega | (simp only [sizeAlloc, sizeDrew, sizeSet, sizePut] <;> omega) | fail) only [GS1, GS2, GS3, GS4, GS5, GS6, GS7, GS8, GS9, GS10, GS11, TT_eq, TTl, Nat.reduceAdd, Nat.reduceMul, Nat.reduceSub, Nat.reduceDiv, Nat.reduceMod, Nat.reducePow, Nat.reduceEqDiff, ↓reduceIte, reduceCtorEq, true_and, and_true, and_self, false_and, and_false, Int.reduceToNat, Int.reduceAdd, Int.reduceSub, Int.reduceMul, cond_true, cond_false, List.toList_toArray, Option.map_some, Option.map_none, Option.some.injEq, List.cons_append, List.nil_append, List.length_cons, List.length_nil, List.getD_cons_zero, List.getD_cons_succ, c8, d8, hi, h6, htx]
            refine ⟨fn_ok k, hfo _ (ha.mod hMz (by simp)) _ fun w9 hM9 => .inl ⟨_, rfl, hold_ops okT (rs := [.tmp 2]) rfl ?_⟩⟩
            have hMy := (hMz).trans hM9 (by simp)
            cases hfb : formB k ⟨k, (a, b, c), aud, mbs, body, yes, tag⟩
            · simp only [hfb, Bool.false_eq_true, if_false] at hR
              simp (config := { maxSteps := 1000000 }) (disch := first | omega | (simp only [sizeAlloc, sizeDrew, sizeSet, sizePut] <;> omega) | fail) only [GS1, GS2, GS3, GS4, GS5, GS6, GS7, GS8, GS9, GS10, GS11, TT_eq, TTl, Nat.reduceAdd, Nat.reduceMul, Nat.reduceSub, Nat.reduceDiv, Nat.reduceMod, Nat.reducePow, Nat.reduceEqDiff, ↓reduceIte, reduceCtorEq, true_and, and_true, and_self, false_and, and_false, Int.reduceToNat, Int.reduceAdd, Int.reduceSub, Int.reduceMul, cond_true, cond_false, List.toList_toArray, Option.map_some, Option.map_none, Option.some.injEq, List.cons_append, List.nil_append, List.length_cons, List.length_nil, List.getD_cons_zero, List.getD_cons_succ, hfb]
              exact hR _ hMy
            · simp only [hfb, if_true] at hR
              simp (config := { maxSteps := 1000000 }) (disch := first | omega | (simp only [sizeAlloc, sizeDrew, sizeSet, sizePut] <;> omega) | fail) only [GS1, GS2, GS3, GS4, GS5, GS6, GS7, GS8, GS9, GS10, GS11, TT_eq, TTl, Nat.reduceAdd, Nat.reduceMul, Nat.reduceSub, Nat.reduceDiv, Nat.reduceMod, Nat.reducePow, Nat.reduceEqDiff, ↓reduceIte, reduceCtorEq, true_and, and_true, and_self, false_and, and_false, Int.reduceToNat, Int.reduceAdd, Int.reduceSub, Int.reduceMul, cond_true, cond_false, List.toList_toArray, Option.map_some, Option.map_none, Option.some.injEq, List.cons_append, List.nil_append, List.length_cons, List.length_nil, List.getD_cons_zero, List.getD_cons_succ, hfb]
              exact hR _ hMy
end Go.Proofs.Ytpcilobbohokcaa
