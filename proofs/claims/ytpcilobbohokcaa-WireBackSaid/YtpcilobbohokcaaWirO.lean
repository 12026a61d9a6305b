/-
  wire.decode (walk).
-/
import Derived.Test.YtpcilobbohokcaaWirN
set_option linter.unusedSimpArgs false
set_option linter.unusedVariables false
namespace Go.Proofs.Ytpcilobbohokcaa
open Go Go.Wk Go.RowKit
attribute [local irreducible] go Hold
open Go.Lib
set_option maxRecDepth 20000 in
set_option maxHeartbeats 16000000 in
theorem wDec_cps (S : List UInt8) (hS : S.length ≤ maxLen) (w : World) (R : Ending → World → Prop)
    (h1 : ∀ m sv w', decO S = some m → w'.ownsRow w.heap.size 59 2 sv m.mbs.length (m.mbs.flatMap mbC) → Mod [] w w' → R (.returned (msgV m sv)) w') (h0 : decO S = none → ∀ w', Mod [] w w' → R (.panicked wnoneV) w') :
    Calls Try.prog 56 #[.string ⟨S.toArray⟩] w R := by
  generalize hX : decO S = X at h1 h0
  unfold decO at hX
  refine calls_go 4000 okT Try.func56 rfl (rs := [.cell 2 42]) rfl Try.ntmps56 (args := [.string ⟨S.toArray⟩]) ?_
  simp (config := { maxSteps := 1000000 }) (disch := first | omega | (simp only [sizeAlloc, sizeDrew, sizeSet, sizePut] <;> omega) | fail) only [GS1, GS2, GS3, GS4, GS5, GS6, GS7, GS8, GS9, GS10, GS11, TT_eq, TTl, Nat.reduceAdd, Nat.reduceMul, Nat.reduceSub, Nat.reduceDiv, Nat.reduceMod, Nat.reducePow, Nat.reduceEqDiff, ↓reduceIte, reduceCtorEq, true_and, and_true, and_self, false_and, and_false, Int.reduceToNat, Int.reduceAdd, Int.reduceSub, Int.reduceMul, cond_true, cond_false, List.toList_toArray, Option.map_some, Option.map_none, Option.some.injEq, List.cons_append, List.nil_append, List.length_cons, List.length_nil, List.getD_cons_zero, List.getD_cons_succ]
  have hM0 := (Mod.refl [] w).alloc (.cells #[.int .u8 0, .int .i64 0, .int .i64 0, .int .i64 0, .int .i64 0, .slice none 0 0, .string ⟨#[]⟩, .bool false, .string ⟨#[]⟩] 42)
  have hh := heapNew (w := w) (o := (.cells #[.int .u8 0, .int .i64 0, .int .i64 0, .int .i64 0, .int .i64 0, .slice none 0 0, .string ⟨#[]⟩, .bool false, .string ⟨#[]⟩] 42))
  generalize w.alloc (.cells #[.int .u8 0, .int .i64 0, .int .i64 0, .int .i64 0, .int .i64 0, .slice none 0 0, .string ⟨#[]⟩, .bool false, .string ⟨#[]⟩] 42) = w1 at hM0 hh ⊢
  generalize hn : w.heap.size = n at *
  refine ⟨fok93, wRow_cps S 1 5 (by decide) (by decide) hS _ _ (fun l lv w2 hl hlo hM2 => .inl ⟨_, rfl, hold_ops okT (rs := [.cell 2 42]) rfl ?_⟩) (fun hl w2 hM2 => .inr ⟨_, rfl, hold_ex okT (rs := [.cell 2 42]) rfl ?_⟩)⟩
  rotate_left
  · rw [hl] at hX
    simp (config := { maxSteps := 1000000 }) (disch := first | omega | (simp only [sizeAlloc, sizeDrew, sizeSet, sizePut] <;> omega) | fail) only [GS1, GS2, GS3, GS4, GS5, GS6, GS7, GS8, GS9, GS10, GS11, TT_eq, TTl, Nat.reduceAdd, Nat.reduceMul, Nat.reduceSub, Nat.reduceDiv, Nat.reduceMod, Nat.reducePow, Nat.reduceEqDiff, ↓reduceIte, reduceCtorEq, true_and, and_true, and_self, false_and, and_false, Int.reduceToNat, Int.reduceAdd, Int.reduceSub, Int.reduceMul, cond_true, cond_false, List.toList_toArray, Option.map_some, Option.map_none, Option.some.injEq, List.cons_append, List.nil_append, List.length_cons, List.length_nil, List.getD_cons_zero, List.getD_cons_succ]
    exact h0 hX.symm _ (hM0.trans hM2 (by simp))
  rw [hl] at hX
  simp only at hX
  obtain ⟨hpc, hl1, hl5, -, -⟩ := rowO_ok hl
  obtain ⟨t0, r, rfl⟩ := lenRest hl1
  simp only [List.getD_cons_zero, List.drop_succ_cons, List.drop_zero] at hX
  have hr := Rd.own hlo
  have hh2 := hM2.get hh (by simp)
  have hM02 := hM0.trans hM2 (by simp)
  obtain ⟨b1, o1, c1, e1, _, g1⟩ := hr.at (by simp) (by simp)
  have f0 : w2.cell? ⟨b1, o1, none⟩ = some (.string ⟨t0.toArray⟩) := g1 0 _ rfl
  subst e1
  have z0 := (check0 (hpc t0 (by simp))).2.2.1
  have hb1 : n < b1 ∧ b1 < w2.heap.size := by
    have h3 := hlo.lt b1 (by simp [Value.ownBlock])
    have h4 := (Array.getElem?_eq_some_iff.1 hh).1
    omega
  simp (config := { maxSteps := 1000000 }) (disch := first | omega | (simp only [sizeAlloc, sizeDrew, sizeSet, sizePut] <;> omega) | fail) only [GS1, GS2, GS3, GS4, GS5, GS6, GS7, GS8, GS9, GS10, GS11, TT_eq, TTl, Nat.reduceAdd, Nat.reduceMul, Nat.reduceSub, Nat.reduceDiv, Nat.reduceMod, Nat.reducePow, Nat.reduceEqDiff, ↓reduceIte, reduceCtorEq, true_and, and_true, and_self, false_and, and_false, Int.reduceToNat, Int.reduceAdd, Int.reduceSub, Int.reduceMul, cond_true, cond_false, List.toList_toArray, Option.map_some, Option.map_none, Option.some.injEq, List.cons_append, List.nil_append, List.length_cons, List.length_nil, List.getD_cons_zero, List.getD_cons_succ, f0]
  refine ⟨fok94, tText_cps t0 (by unfold maxLen; omega) _ _ fun w3 hM3 => .inl ⟨_, rfl, hold_ops okT (rs := [.cell 2 42]) rfl ?_⟩⟩
  have hM03 := hM02.trans hM3 (by simp)
  have f0' := cellM f0 hM3
  cases hi : (textS t0).2
  · rw [if_neg (text_kind hi)] at hX
    simp (config := { maxSteps := 1000000 }) (disch := first | omega | (simp only [sizeAlloc, sizeDrew, sizeSet, sizePut] <;> omega) | fail) only [GS1, GS2, GS3, GS4, GS5, GS6, GS7, GS8, GS9, GS10, GS11, TT_eq, TTl, Nat.reduceAdd, Nat.reduceMul, Nat.reduceSub, Nat.reduceDiv, Nat.reduceMod, Nat.reducePow, Nat.reduceEqDiff, ↓reduceIte, reduceCtorEq, true_and, and_true, and_self, false_and, and_false, Int.reduceToNat, Int.reduceAdd, Int.reduceSub, Int.reduceMul, cond_true, cond_false, List.toList_toArray, Option.map_some, Option.map_none, Option.some.injEq, List.cons_append, List.nil_append, List.length_cons, List.length_nil, List.getD_cons_zero, List.getD_cons_succ]
    refine ⟨fok95, wMust_cps _ _ _ (fun h => absurd h (by simp)) (fun _ => .inr ⟨_, rfl, hold_ex okT (rs := [.cell 2 42]) rfl ?_⟩)⟩
    simp (config := { maxSteps := 1000000 }) (disch := first | omega | (simp only [sizeAlloc, sizeDrew, sizeSet, sizePut] <;> omega) | fail) only [GS1, GS2, GS3, GS4, GS5, GS6, GS7, GS8, GS9, GS10, GS11, TT_eq, TTl, Nat.reduceAdd, Nat.reduceMul, Nat.reduceSub, Nat.reduceDiv, Nat.reduceMod, Nat.reducePow, Nat.reduceEqDiff, ↓reduceIte, reduceCtorEq, true_and, and_true, and_self, false_and, and_false, Int.reduceToNat, Int.reduceAdd, Int.reduceSub, Int.reduceMul, cond_true, cond_false, List.toList_toArray, Option.map_some, Option.map_none, Option.some.injEq, List.cons_append, List.nil_append, List.length_cons, List.length_nil, List.getD_cons_zero, List.getD_cons_succ]
    exact h0 hX.symm _ hM03
  simp (config := { maxSteps := 1000000 }) (disch := first | omega | (simp only [sizeAlloc, sizeDrew, sizeSet, sizePut] <;> omega) | fail) only [GS1, GS2, GS3, GS4, GS5, GS6, GS7, GS8, GS9, GS10, GS11, TT_eq, TTl, Nat.reduceAdd, Nat.reduceMul, Nat.reduceSub, Nat.reduceDiv, Nat.reduceMod, Nat.reducePow, Nat.reduceEqDiff, ↓reduceIte, reduceCtorEq, true_and, and_true, and_self, false_and, and_false, Int.reduceToNat, Int.reduceAdd, Int.reduceSub, Int.reduceMul, cond_true, cond_false, List.toList_toArray, Option.map_some, Option.map_none, Option.some.injEq, List.cons_append, List.nil_append, List.length_cons, List.length_nil, List.getD_cons_zero, List.getD_cons_succ, f0']
  refine ⟨fok22, tKind_cps t0 (by unfold maxLen; omega) _ _ fun w4 hM4 => .inl ⟨_, rfl, hold_ops okT (rs := [.cell 2 42]) rfl ?_⟩⟩
  have hM04 := hM03.trans hM4 (by simp)
  have hh4 := (hM3.trans hM4 (by simp)).get hh2 (by simp)
  have hr4 := hr.mod (hM3.trans hM4 (by simp)) (by simp)
  by_cases hk1 : (kindS t0 : Int) = 1
  rotate_left
  · rw [if_neg (fun e => hk1 (by omega))] at hX
    simp (config := { maxSteps := 1000000 }) (disch := first | omega | (simp only [sizeAlloc, sizeDrew, sizeSet, sizePut] <;> omega) | fail) only [GS1, GS2, GS3, GS4, GS5, GS6, GS7, GS8, GS9, GS10, GS11, TT_eq, TTl, Nat.reduceAdd, Nat.reduceMul, Nat.reduceSub, Nat.reduceDiv, Nat.reduceMod, Nat.reducePow, Nat.reduceEqDiff, ↓reduceIte, reduceCtorEq, true_and, and_true, and_self, false_and, and_false, Int.reduceToNat, Int.reduceAdd, Int.reduceSub, Int.reduceMul, cond_true, cond_false, List.toList_toArray, Option.map_some, Option.map_none, Option.some.injEq, List.cons_append, List.nil_append, List.length_cons, List.length_nil, List.getD_cons_zero, List.getD_cons_succ, hk1]
    refine ⟨fok95, wMust_cps _ _ _ (fun h => absurd h (by simp)) (fun _ => .inr ⟨_, rfl, hold_ex okT (rs := [.cell 2 42]) rfl ?_⟩)⟩
    simp (config := { maxSteps := 1000000 }) (disch := first | omega | (simp only [sizeAlloc, sizeDrew, sizeSet, sizePut] <;> omega) | fail) only [GS1, GS2, GS3, GS4, GS5, GS6, GS7, GS8, GS9, GS10, GS11, TT_eq, TTl, Nat.reduceAdd, Nat.reduceMul, Nat.reduceSub, Nat.reduceDiv, Nat.reduceMod, Nat.reducePow, Nat.reduceEqDiff, ↓reduceIte, reduceCtorEq, true_and, and_true, and_self, false_and, and_false, Int.reduceToNat, Int.reduceAdd, Int.reduceSub, Int.reduceMul, cond_true, cond_false, List.toList_toArray, Option.map_some, Option.map_none, Option.some.injEq, List.cons_append, List.nil_append, List.length_cons, List.length_nil, List.getD_cons_zero, List.getD_cons_succ]
    exact h0 hX.symm _ hM04
  rw [if_pos (by omega)] at hX
  simp (config := { maxSteps := 1000000 }) (disch := first | omega | (simp only [sizeAlloc, sizeDrew, sizeSet, sizePut] <;> omega) | fail) only [GS1, GS2, GS3, GS4, GS5, GS6, GS7, GS8, GS9, GS10, GS11, TT_eq, TTl, Nat.reduceAdd, Nat.reduceMul, Nat.reduceSub, Nat.reduceDiv, Nat.reduceMod, Nat.reducePow, Nat.reduceEqDiff, ↓reduceIte, reduceCtorEq, true_and, and_true, and_self, false_and, and_false, Int.reduceToNat, Int.reduceAdd, Int.reduceSub, Int.reduceMul, cond_true, cond_false, List.toList_toArray, Option.map_some, Option.map_none, Option.some.injEq, List.cons_append, List.nil_append, List.length_cons, List.length_nil, List.getD_cons_zero, List.getD_cons_succ, hk1]
  refine ⟨fok95, wMust_cps _ _ _ (fun _ => .inl ⟨_, rfl, hold_ops okT (rs := [.cell 2 42]) rfl ?_⟩) (fun h => absurd h (by simp))⟩
  simp (config := { maxSteps := 1000000 }) (disch := first | omega | (simp only [sizeAlloc, sizeDrew, sizeSet, sizePut] <;> omega) | fail) only [GS1, GS2, GS3, GS4, GS5, GS6, GS7, GS8, GS9, GS10, GS11, TT_eq, TTl, Nat.reduceAdd, Nat.reduceMul, Nat.reduceSub, Nat.reduceDiv, Nat.reduceMod, Nat.reducePow, Nat.reduceEqDiff, ↓reduceIte, reduceCtorEq, true_and, and_true, and_self, false_and, and_false, Int.reduceToNat, Int.reduceAdd, Int.reduceSub, Int.reduceMul, cond_true, cond_false, List.toList_toArray, Option.map_some, Option.map_none, Option.some.injEq, List.cons_append, List.nil_append, List.length_cons, List.length_nil, List.getD_cons_zero, List.getD_cons_succ]
  refine ⟨fok57, wKinds_cps _ _ fun mp w5 hm hmn hM5 => .inl ⟨_, rfl, hold_ops okT (rs := [.cell 2 42]) rfl ?_⟩⟩
  have hM05 := hM04.trans hM5 (by simp)
  have hh5 := hM5.get hh4 (by simp)
  have hr5 := hr4.mod hM5 (by simp)
  simp (config := { maxSteps := 1000000 }) (disch := first | omega | (simp only [sizeAlloc, sizeDrew, sizeSet, sizePut] <;> omega) | fail) only [GS1, GS2, GS3, GS4, GS5, GS6, GS7, GS8, GS9, GS10, GS11, TT_eq, TTl, Nat.reduceAdd, Nat.reduceMul, Nat.reduceSub, Nat.reduceDiv, Nat.reduceMod, Nat.reducePow, Nat.reduceEqDiff, ↓reduceIte, reduceCtorEq, true_and, and_true, and_self, false_and, and_false, Int.reduceToNat, Int.reduceAdd, Int.reduceSub, Int.reduceMul, cond_true, cond_false, List.toList_toArray, Option.map_some, Option.map_none, Option.some.injEq, List.cons_append, List.nil_append, List.length_cons, List.length_nil, List.getD_cons_zero, List.getD_cons_succ]
  refine hold_rangeMap okT rfl rfl rfl hm fun w6 hIt hM6 hs6 => hold_ops okT (rs := [.cell 2 42]) rfl ?_
  have hM06 := hM05.trans hM6 (by simp)
  have hh6 := hM6.get hh5 (by simp)
  have hr6 := hr5.mod hM6 (by simp)
  have hs5 := hM05.size
  have hnn := (Array.getElem?_eq_some_iff.1 hh5).1
  have hb2 : b1 < w5.heap.size := Nat.lt_of_lt_of_le hb1.2 (Nat.le_trans hM3.size (Nat.le_trans hM4.size hM5.size))
  have hmp := hm.lt
  generalize hIt' : w5.heap.size = it at *
  clear hlo g1 f0 f0' hr hr4 hr5 hh hh2 hh4 hh5 hM0 hM2 hM02 hM3 hM03 hM4 hM04 hM5 hM05 hM6 hi hm
  generalize (textS t0).1 = W at hX ⊢
  simp (config := { maxSteps := 1000000 }) (disch := first | omega | (simp only [sizeAlloc, sizeDrew, sizeSet, sizePut] <;> omega) | fail) only [GS1, GS2, GS3, GS4, GS5, GS6, GS7, GS8, GS9, GS10, GS11, TT_eq, TTl, Nat.reduceAdd, Nat.reduceMul, Nat.reduceSub, Nat.reduceDiv, Nat.reduceMod, Nat.reducePow, Nat.reduceEqDiff, ↓reduceIte, reduceCtorEq, true_and, and_true, and_self, false_and, and_false, Int.reduceToNat, Int.reduceAdd, Int.reduceSub, Int.reduceMul, cond_true, cond_false, List.toList_toArray, Option.map_some, Option.map_none, Option.some.injEq, List.cons_append, List.nil_append, List.length_cons, List.length_nil, List.getD_cons_zero, List.getD_cons_succ]
  refine hold_loop okT (rs := [.cell 2 42]) rfl [3] [6, 7, 28, 29, 30, 31, 32, 33, 34, 35, 36, 37, 38, 39, 40, 41, 42, 43, 44, 45, 46, 47, 48, 49, 50, 51, 52, 53, 54, 55, 56, 57, 58, 59, 60, 61, 62, 63, 64, 65, 66, 67, 68, 69, 70, 71, 72, 73, 74, 75] (fun vs w' => ∃ left, vs = [.slice (some ⟨b1, o1, none⟩) (r.length + 1 : Nat) c1] ∧ ItAt w' it mp left ∧ (∀ e ∈ left, e ∈ kindsL) ∧ (∀ k : Nat, 1 ≤ k ∧ k ≤ 6 → wordS k = W → ((.int .u8 k : Value), kdAt k) ∈ left) ∧ Mod [it] w6 w') (fun vs w' => itLeft w' it) (by kernel_rfl) ⟨_, rfl, hIt, fun e he => he, fun k hk _ => in_kinds hk, Mod.refl _ _⟩ ?_
  rintro vs w7 J ⟨left, rfl, hIt7, hin, hfit, hM67⟩
  simp (config := { maxSteps := 1000000 }) (disch := first | omega | (simp only [sizeAlloc, sizeDrew, sizeSet, sizePut] <;> omega) | fail) only [GS1, GS2, GS3, GS4, GS5, GS6, GS7, GS8, GS9, GS10, GS11, TT_eq, TTl, Nat.reduceAdd, Nat.reduceMul, Nat.reduceSub, Nat.reduceDiv, Nat.reduceMod, Nat.reducePow, Nat.reduceEqDiff, ↓reduceIte, reduceCtorEq, true_and, and_true, and_self, false_and, and_false, Int.reduceToNat, Int.reduceAdd, Int.reduceSub, Int.reduceMul, cond_true, cond_false, List.toList_toArray, Option.map_some, Option.map_none, Option.some.injEq, List.cons_append, List.nil_append, List.length_cons, List.length_nil, List.getD_cons_zero, List.getD_cons_succ]
  have hM07 : Mod [] w w7 := hM06.trans hM67 (fun y hy => .inr (by simp at hy; omega))
  have hh7 := hM67.get hh6 (by simp; omega)
  have hr7 := hr6.mod hM67 (fun b hb => by simp only [blkOf, Option.some.injEq] at hb; subst hb; simp; omega)
  refine hold_nextMap rfl rfl hIt7 (fun hz => hold_ops okT (rs := [.cell 2 42]) rfl ?_) (fun key val la lb w8 hleft hIt8 hEnt hM8 => hold_ops okT (rs := [.cell 2 42]) rfl ?_)
  · have hw0 : wordN W = 0 := Decidable.byContradiction fun h => by
      obtain ⟨e1, e2⟩ := of_word rfl h
      have := hfit _ e2 e1.symm
      rw [hz] at this
      simp at this
    rw [if_pos hw0] at hX
    simp (config := { maxSteps := 1000000 }) (disch := first | omega | (simp only [sizeAlloc, sizeDrew, sizeSet, sizePut] <;> omega) | fail) only [GS1, GS2, GS3, GS4, GS5, GS6, GS7, GS8, GS9, GS10, GS11, TT_eq, TTl, Nat.reduceAdd, Nat.reduceMul, Nat.reduceSub, Nat.reduceDiv, Nat.reduceMod, Nat.reducePow, Nat.reduceEqDiff, ↓reduceIte, reduceCtorEq, true_and, and_true, and_self, false_and, and_false, Int.reduceToNat, Int.reduceAdd, Int.reduceSub, Int.reduceMul, cond_true, cond_false, List.toList_toArray, Option.map_some, Option.map_none, Option.some.injEq, List.cons_append, List.nil_append, List.length_cons, List.length_nil, List.getD_cons_zero, List.getD_cons_succ]
    unfold panW
    refine hold_ex okT (rs := [.cell 2 42]) rfl ?_
    simp (config := { maxSteps := 1000000 }) (disch := first | omega | (simp only [sizeAlloc, sizeDrew, sizeSet, sizePut] <;> omega) | fail) only [GS1, GS2, GS3, GS4, GS5, GS6, GS7, GS8, GS9, GS10, GS11, TT_eq, TTl, Nat.reduceAdd, Nat.reduceMul, Nat.reduceSub, Nat.reduceDiv, Nat.reduceMod, Nat.reducePow, Nat.reduceEqDiff, ↓reduceIte, reduceCtorEq, true_and, and_true, and_self, false_and, and_false, Int.reduceToNat, Int.reduceAdd, Int.reduceSub, Int.reduceMul, cond_true, cond_false, List.toList_toArray, Option.map_some, Option.map_none, Option.some.injEq, List.cons_append, List.nil_append, List.length_cons, List.length_nil, List.getD_cons_zero, List.getD_cons_succ]
    exact h0 hX.symm _ hM07
  obtain ⟨k, hk, e⟩ := kinds_in _ (hin (key, val) (by rw [hleft]; simp))
  rw [Prod.mk.injEq] at e
  obtain ⟨rfl, rfl⟩ := e
  obtain ⟨ca, cb, ek, oa, ob⟩ := kdAt_rd k hk
  simp (config := { maxSteps := 1000000 }) (disch := first | omega | (simp only [sizeAlloc, sizeDrew, sizeSet, sizePut] <;> omega) | fail) only [GS1, GS2, GS3, GS4, GS5, GS6, GS7, GS8, GS9, GS10, GS11, TT_eq, TTl, Nat.reduceAdd, Nat.reduceMul, Nat.reduceSub, Nat.reduceDiv, Nat.reduceMod, Nat.reducePow, Nat.reduceEqDiff, ↓reduceIte, reduceCtorEq, true_and, and_true, and_self, false_and, and_false, Int.reduceToNat, Int.reduceAdd, Int.reduceSub, Int.reduceMul, cond_true, cond_false, List.toList_toArray, Option.map_some, Option.map_none, Option.some.injEq, List.cons_append, List.nil_append, List.length_cons, List.length_nil, List.getD_cons_zero, List.getD_cons_succ]
  refine hold_entryMap rfl rfl hEnt (hold_ops okT (rs := [.cell 2 42]) rfl ?_)
  rw [ek]
  have hs7 := hM67.size
  have hs8 := hM8.size
  have hs07 := hM07.size
  have hn8 := (Array.getElem?_eq_some_iff.1 hh7).1
  have hM08 : Mod [] w w8 := hM07.trans hM8 (fun y hy => .inr (by simp at hy; omega))
  have hh8 := hM8.get hh7 (by simp; omega)
  have hr8 := hr7.mod hM8 (fun b hb => by simp only [blkOf, Option.some.injEq] at hb; subst hb; simp; omega)
  have hMz0 : Mod [] w8 ((((((((w8.alloc (.cells #[.string ⟨#[]⟩, .int .i64 0, .int .i64 0, .nilFunc, .nilFunc, .nilFunc] 102)).setCell ⟨w8.heap.size, 0, none⟩ (.string ⟨(wordS k).toArray⟩)).setCell ⟨w8.heap.size, 1, none⟩ (.int .i64 (mnAt k : Nat))).setCell ⟨w8.heap.size, 2, none⟩ (.int .i64 (mxAt k : Nat))).setCell ⟨w8.heap.size, 3, none⟩ ca).setCell ⟨w8.heap.size, 4, none⟩ cb).setCell ⟨w8.heap.size, 5, none⟩ (.func (.func (rdAt k)) #[] #[]))) := ((((((((Mod.refl [] w8).alloc (.cells #[.string ⟨#[]⟩, .int .i64 0, .int .i64 0, .nilFunc, .nilFunc, .nilFunc] 102)).set (p := ⟨w8.heap.size, 0, none⟩) (.inr (Nat.le_refl _)) (.string ⟨(wordS k).toArray⟩)).set (p := ⟨w8.heap.size, 1, none⟩) (.inr (Nat.le_refl _)) (.int .i64 (mnAt k : Nat))).set (p := ⟨w8.heap.size, 2, none⟩) (.inr (Nat.le_refl _)) (.int .i64 (mxAt k : Nat))).set (p := ⟨w8.heap.size, 3, none⟩) (.inr (Nat.le_refl _)) ca).set (p := ⟨w8.heap.size, 4, none⟩) (.inr (Nat.le_refl _)) cb).set (p := ⟨w8.heap.size, 5, none⟩) (.inr (Nat.le_refl _)) (.func (.func (rdAt k)) #[] #[]))
  have hbK := st6 (heapNew (w := w8) (o := (.cells #[.string ⟨#[]⟩, .int .i64 0, .int .i64 0, .nilFunc, .nilFunc, .nilFunc] 102))) (x := .string ⟨(wordS k).toArray⟩) (y := .int .i64 (mnAt k : Nat)) (z := .int .i64 (mxAt k : Nat)) (u := ca) (v := cb) (q := (.func (.func (rdAt k)) #[] #[]))
  by_cases hw : wordS k = W
  rotate_left
  · simp (config := { maxSteps := 1000000 }) (disch := first | omega | (simp only [sizeAlloc, sizeDrew, sizeSet, sizePut] <;> omega) | fail) only [GS1, GS2, GS3, GS4, GS5, GS6, GS7, GS8, GS9, GS10, GS11, TT_eq, TTl, Nat.reduceAdd, Nat.reduceMul, Nat.reduceSub, Nat.reduceDiv, Nat.reduceMod, Nat.reducePow, Nat.reduceEqDiff, ↓reduceIte, reduceCtorEq, true_and, and_true, and_self, false_and, and_false, Int.reduceToNat, Int.reduceAdd, Int.reduceSub, Int.reduceMul, cond_true, cond_false, List.toList_toArray, Option.map_some, Option.map_none, Option.some.injEq, List.cons_append, List.nil_append, List.length_cons, List.length_nil, List.getD_cons_zero, List.getD_cons_succ, oa, ob, hw]
    have hItZ := hIt8.mod hMz0 (by simp) (by simp)
    have hMZ := hM67.trans (hM8.trans hMz0 (by simp)) (by simp)
    refine ⟨⟨la ++ lb, hItZ, fun e he => hin e ?_, fun j hj hjw => ?_, hMZ⟩, ?_⟩
    · rw [hleft]
      rw [List.mem_append] at he
      rw [List.mem_append, List.mem_cons]
      rcases he with he | he
      · exact .inl he
      · exact .inr (.inr he)
    · have hmem := hfit j hj hjw
      rw [hleft, List.mem_append, List.mem_cons] at hmem
      rw [List.mem_append]
      rcases hmem with hmem | hmem | hmem
      · exact .inl hmem
      · rw [Prod.mk.injEq] at hmem
        have h1 := hmem.1
        rw [Value.int.injEq] at h1
        have : j = k := by omega
        subst this
        exact absurd hjw hw
      · exact .inr hmem
    · rw [hItZ.count, hIt7.count, hleft, List.length_append, List.length_append, List.length_cons]
      omega
  subst hw
  rw [word_of hk, if_neg (by omega)] at hX
  simp (config := { maxSteps := 1000000 }) (disch := first | omega | (simp only [sizeAlloc, sizeDrew, sizeSet, sizePut] <;> omega) | fail) only [GS1, GS2, GS3, GS4, GS5, GS6, GS7, GS8, GS9, GS10, GS11, TT_eq, TTl, Nat.reduceAdd, Nat.reduceMul, Nat.reduceSub, Nat.reduceDiv, Nat.reduceMod, Nat.reducePow, Nat.reduceEqDiff, ↓reduceIte, reduceCtorEq, true_and, and_true, and_self, false_and, and_false, Int.reduceToNat, Int.reduceAdd, Int.reduceSub, Int.reduceMul, cond_true, cond_false, List.toList_toArray, Option.map_some, Option.map_none, Option.some.injEq, List.cons_append, List.nil_append, List.length_cons, List.length_nil, List.getD_cons_zero, List.getD_cons_succ, oa, ob]
  have hhK : (((((((w8.alloc (.cells #[.string ⟨#[]⟩, .int .i64 0, .int .i64 0, .nilFunc, .nilFunc, .nilFunc] 102)).setCell ⟨w8.heap.size, 0, none⟩ (.string ⟨(wordS k).toArray⟩)).setCell ⟨w8.heap.size, 1, none⟩ (.int .i64 (mnAt k : Nat))).setCell ⟨w8.heap.size, 2, none⟩ (.int .i64 (mxAt k : Nat))).setCell ⟨w8.heap.size, 3, none⟩ ca).setCell ⟨w8.heap.size, 4, none⟩ cb).setCell ⟨w8.heap.size, 5, none⟩ (.func (.func (rdAt k)) #[] #[])).heap[n]? = _ := (heapSetNe (heapSetNe (heapSetNe (heapSetNe (heapSetNe (heapSetNe (heapAlloc hh8) (by omega)) (by omega)) (by omega)) (by omega)) (by omega)) (by omega))
  have hMK : Mod [] w _ := hM08.trans hMz0 (by simp)
  have hrK := hr8.mod hMz0 (by simp)
  revert hbK hhK hMK hrK
  clear hMz0
  generalize (((((((w8.alloc (.cells #[.string ⟨#[]⟩, .int .i64 0, .int .i64 0, .nilFunc, .nilFunc, .nilFunc] 102)).setCell ⟨w8.heap.size, 0, none⟩ (.string ⟨(wordS k).toArray⟩)).setCell ⟨w8.heap.size, 1, none⟩ (.int .i64 (mnAt k : Nat))).setCell ⟨w8.heap.size, 2, none⟩ (.int .i64 (mxAt k : Nat))).setCell ⟨w8.heap.size, 3, none⟩ ca).setCell ⟨w8.heap.size, 4, none⟩ cb).setCell ⟨w8.heap.size, 5, none⟩ (.func (.func (rdAt k)) #[] #[])) = wK
  intro hbK hhK hMK hrK
  have hbp : n < w8.heap.size := by omega
  generalize w8.heap.size = b4 at *
  refine hold_draw okT (rs := [.cell 2 42]) rfl [0, 0, 2, 1, 9, 31] [0, 1, 2, 3, 4, 5] (by kernel_rfl) (by kernel_rfl) ?_
  have hh9 : (wK.drewN 1).heap[n]? = _ := hhK
  have hb9 : (wK.drewN 1).heap[b4]? = _ := hbK
  have hM9 := hMK.drewN 1
  have hr9 := hrK.mod (Mod.drewN 1 (Mod.refl [] wK)) (by simp)
  generalize wK.drewN 1 = w9 at *
  have x9 := fun o => frozenOf (o := o) hh9
  have c9 := fun o => cellOf (o := o) hh9
  have d9 := fun o => cellOf (o := o) hb9
  obtain ⟨o2, eo2⟩ := tail_at (b := b1) (o := o1) (c := c1)
  have hr9' := rd_tail (show Rd w9 1 (.slice (some ⟨b1, o1, none⟩) (r.length + 1) c1) (r.length + 1) (strV t0 :: r.map strV) from hr9)
  rw [eo2] at hr9'
  by_cases h6 : (k : Int) = 6
  · have h6n : k = 6 := by omega
    simp (config := { maxSteps := 1000000 }) (disch := first | omega | (simp only [sizeAlloc, sizeDrew, sizeSet, sizePut] <;> omega) | fail) only [GS1, GS2, GS3, GS4, GS5, GS6, GS7, GS8, GS9, GS10, GS11, TT_eq, TTl, Nat.reduceAdd, Nat.reduceMul, Nat.reduceSub, Nat.reduceDiv, Nat.reduceMod, Nat.reducePow, Nat.reduceEqDiff, ↓reduceIte, reduceCtorEq, true_and, and_true, and_self, false_and, and_false, Int.reduceToNat, Int.reduceAdd, Int.reduceSub, Int.reduceMul, cond_true, cond_false, List.toList_toArray, Option.map_some, Option.map_none, Option.some.injEq, List.cons_append, List.nil_append, List.length_cons, List.length_nil, List.getD_cons_zero, List.getD_cons_succ, x9, c9, d9, h6, Nat.add_sub_cancel, eo2]
    unfold decK txL at hX
    rw [if_pos h6n] at hX
    simp only at hX
    have hhX : (w9.setCell ⟨n, 0, none⟩ (.int .u8 6)).heap[n]? = some (.cells (msgC (m0 k (0, 0, 0)) (.slice none 0 0)).toArray 42 (0, 0)) := by
      rw [heapSet hh9]; unfold m0 msgC; simp only; rw [h6]; rfl
    have hbX : (w9.setCell ⟨n, 0, none⟩ (.int .u8 6)).heap[b4]? = _ := heapSetNe hb9 (by omega)
    have hMX : Mod [] w (w9.setCell ⟨n, 0, none⟩ (.int .u8 6)) := hM9.set (p := ⟨n, 0, none⟩) (.inr (by show w.heap.size ≤ n; omega)) _
    have hrX := hr9'.mod ((Mod.refl [n] w9).set (p := ⟨n, 0, none⟩) (.inl (by simp)) (.int .u8 6)) (fun b hb => by simp only [blkOf, Option.some.injEq] at hb; subst hb; simp; omega)
    have hq : ∀ t ∈ r, checkS t = 0 := fun t ht => hpc t (by simp [ht])
    revert hhX hbX hMX hrX
    generalize w9.setCell ⟨n, 0, none⟩ (.int .u8 6) = wX
    intro hhX hbX hMX hrX
    unfold decR at hX
    try clear hIt
    try clear hIt7
    try clear hIt8
    try clear hEnt
    try clear hfit
    try clear hin
    try clear hleft
    try clear hM67
    try clear hM06
    try clear hM07
    try clear hM08
    try clear hM8
    try clear hh6
    try clear hh7
    try clear hh8
    try clear hr6
    try clear hr7
    try clear hr8
    try clear hr9
    try clear hr9'
    try clear hh9
    try clear hb9
    try clear hM9
    try clear x9
    try clear c9
    try clear d9
    try clear hhs
    try clear hbs
    try clear hMs
    try clear hrs
    try clear hhU
    try clear hbU
    try clear hMdU
    try clear hrU
    try clear xU
    try clear cU
    try clear dU
    try clear ek
    try clear hu
    try clear hw0
    try clear hl
    have hLQ : r.length ≤ 5 := by simp only [List.length_cons] at hl5; omega
    have cX := fun o => cellOf (o := o) hhX
    have dX := fun o => cellOf (o := o) hbX
    by_cases ha : ((mnAt k : Nat) : Int) ≤ ((r.length : Nat) : Int)
    rotate_left
    · rw [if_neg (fun h => ha (by have := h.1; omega))] at hX
      simp (config := { maxSteps := 1000000 }) (disch := first | omega | (simp only [sizeAlloc, sizeDrew, sizeSet, sizePut] <;> omega) | fail) only [GS1, GS2, GS3, GS4, GS5, GS6, GS7, GS8, GS9, GS10, GS11, TT_eq, TTl, Nat.reduceAdd, Nat.reduceMul, Nat.reduceSub, Nat.reduceDiv, Nat.reduceMod, Nat.reducePow, Nat.reduceEqDiff, ↓reduceIte, reduceCtorEq, true_and, and_true, and_self, false_and, and_false, Int.reduceToNat, Int.reduceAdd, Int.reduceSub, Int.reduceMul, cond_true, cond_false, List.toList_toArray, Option.map_some, Option.map_none, Option.some.injEq, List.cons_append, List.nil_append, List.length_cons, List.length_nil, List.getD_cons_zero, List.getD_cons_succ, dX, ha]
      refine ⟨fok95, wMust_cps _ _ _ (fun h => absurd h (by simp)) (fun _ => .inr ⟨_, rfl, hold_ex okT (rs := [.cell 2 42]) rfl ?_⟩)⟩
      simp (config := { maxSteps := 1000000 }) (disch := first | omega | (simp only [sizeAlloc, sizeDrew, sizeSet, sizePut] <;> omega) | fail) only [GS1, GS2, GS3, GS4, GS5, GS6, GS7, GS8, GS9, GS10, GS11, TT_eq, TTl, Nat.reduceAdd, Nat.reduceMul, Nat.reduceSub, Nat.reduceDiv, Nat.reduceMod, Nat.reducePow, Nat.reduceEqDiff, ↓reduceIte, reduceCtorEq, true_and, and_true, and_self, false_and, and_false, Int.reduceToNat, Int.reduceAdd, Int.reduceSub, Int.reduceMul, cond_true, cond_false, List.toList_toArray, Option.map_some, Option.map_none, Option.some.injEq, List.cons_append, List.nil_append, List.length_cons, List.length_nil, List.getD_cons_zero, List.getD_cons_succ]
      exact h0 hX.symm _ hMX
    by_cases hb : ((r.length : Nat) : Int) ≤ ((mxAt k : Nat) : Int)
    rotate_left
    · rw [if_neg (fun h => hb (by have := h.2; omega))] at hX
      simp (config := { maxSteps := 1000000 }) (disch := first | omega | (simp only [sizeAlloc, sizeDrew, sizeSet, sizePut] <;> omega) | fail) only [GS1, GS2, GS3, GS4, GS5, GS6, GS7, GS8, GS9, GS10, GS11, TT_eq, TTl, Nat.reduceAdd, Nat.reduceMul, Nat.reduceSub, Nat.reduceDiv, Nat.reduceMod, Nat.reducePow, Nat.reduceEqDiff, ↓reduceIte, reduceCtorEq, true_and, and_true, and_self, false_and, and_false, Int.reduceToNat, Int.reduceAdd, Int.reduceSub, Int.reduceMul, cond_true, cond_false, List.toList_toArray, Option.map_some, Option.map_none, Option.some.injEq, List.cons_append, List.nil_append, List.length_cons, List.length_nil, List.getD_cons_zero, List.getD_cons_succ, dX, ha, hb]
      refine ⟨fok95, wMust_cps _ _ _ (fun h => absurd h (by simp)) (fun _ => .inr ⟨_, rfl, hold_ex okT (rs := [.cell 2 42]) rfl ?_⟩)⟩
      simp (config := { maxSteps := 1000000 }) (disch := first | omega | (simp only [sizeAlloc, sizeDrew, sizeSet, sizePut] <;> omega) | fail) only [GS1, GS2, GS3, GS4, GS5, GS6, GS7, GS8, GS9, GS10, GS11, TT_eq, TTl, Nat.reduceAdd, Nat.reduceMul, Nat.reduceSub, Nat.reduceDiv, Nat.reduceMod, Nat.reducePow, Nat.reduceEqDiff, ↓reduceIte, reduceCtorEq, true_and, and_true, and_self, false_and, and_false, Int.reduceToNat, Int.reduceAdd, Int.reduceSub, Int.reduceMul, cond_true, cond_false, List.toList_toArray, Option.map_some, Option.map_none, Option.some.injEq, List.cons_append, List.nil_append, List.length_cons, List.length_nil, List.getD_cons_zero, List.getD_cons_succ]
      exact h0 hX.symm _ hMX
    have hnn2 : mnAt k ≤ r.length ∧ r.length ≤ mxAt k := ⟨by omega, by omega⟩
    rw [if_pos hnn2] at hX
    simp (config := { maxSteps := 1000000 }) (disch := first | omega | (simp only [sizeAlloc, sizeDrew, sizeSet, sizePut] <;> omega) | fail) only [GS1, GS2, GS3, GS4, GS5, GS6, GS7, GS8, GS9, GS10, GS11, TT_eq, TTl, Nat.reduceAdd, Nat.reduceMul, Nat.reduceSub, Nat.reduceDiv, Nat.reduceMod, Nat.reducePow, Nat.reduceEqDiff, ↓reduceIte, reduceCtorEq, true_and, and_true, and_self, false_and, and_false, Int.reduceToNat, Int.reduceAdd, Int.reduceSub, Int.reduceMul, cond_true, cond_false, List.toList_toArray, Option.map_some, Option.map_none, Option.some.injEq, List.cons_append, List.nil_append, List.length_cons, List.length_nil, List.getD_cons_zero, List.getD_cons_succ, dX, ha, hb]
    refine ⟨fok95, wMust_cps _ _ _ (fun _ => .inl ⟨_, rfl, hold_ops okT (rs := [.cell 2 42]) rfl ?_⟩) (fun h => absurd h (by simp))⟩
    simp (config := { maxSteps := 1000000 }) (disch := first | omega | (simp only [sizeAlloc, sizeDrew, sizeSet, sizePut] <;> omega) | fail) only [GS1, GS2, GS3, GS4, GS5, GS6, GS7, GS8, GS9, GS10, GS11, TT_eq, TTl, Nat.reduceAdd, Nat.reduceMul, Nat.reduceSub, Nat.reduceDiv, Nat.reduceMod, Nat.reducePow, Nat.reduceEqDiff, ↓reduceIte, reduceCtorEq, true_and, and_true, and_self, false_and, and_false, Int.reduceToNat, Int.reduceAdd, Int.reduceSub, Int.reduceMul, cond_true, cond_false, List.toList_toArray, Option.map_some, Option.map_none, Option.some.injEq, List.cons_append, List.nil_append, List.length_cons, List.length_nil, List.getD_cons_zero, List.getD_cons_succ, dX]
    refine ⟨rd_ok k, wRead_cps k k (0, 0, 0) n r _ hnn2 (fun t ht => by have := (check0 (hq t ht)).2.2.1; unfold maxLen; omega) wX hhX hrX (fun b o c e => by rw [Value.slice.injEq, Option.some.injEq, Addr.mk.injEq] at e; omega) _ (fun m sv wY hg hhY hown hMY => .inl ⟨_, rfl, hold_ops okT (rs := [.cell 2 42]) rfl ?_⟩) (fun hg wY hMY => .inr ⟨_, rfl, hold_ex okT (rs := [.cell 2 42]) rfl ?_⟩)⟩
    rotate_left
    · rw [hg] at hX
      simp (config := { maxSteps := 1000000 }) (disch := first | omega | (simp only [sizeAlloc, sizeDrew, sizeSet, sizePut] <;> omega) | fail) only [GS1, GS2, GS3, GS4, GS5, GS6, GS7, GS8, GS9, GS10, GS11, TT_eq, TTl, Nat.reduceAdd, Nat.reduceMul, Nat.reduceSub, Nat.reduceDiv, Nat.reduceMod, Nat.reducePow, Nat.reduceEqDiff, ↓reduceIte, reduceCtorEq, true_and, and_true, and_self, false_and, and_false, Int.reduceToNat, Int.reduceAdd, Int.reduceSub, Int.reduceMul, cond_true, cond_false, List.toList_toArray, Option.map_some, Option.map_none, Option.some.injEq, List.cons_append, List.nil_append, List.length_cons, List.length_nil, List.getD_cons_zero, List.getD_cons_succ]
      exact h0 hX.symm _ (hMX.trans hMY (fun y hy => .inr (by simp at hy; omega)))
    rw [hg] at hX
    simp only at hX
    obtain ⟨e1, z1, z2, z3, z4⟩ := get_small hg hq hk hnn2
    have hMWY : Mod [] w wY := hMX.trans hMY (fun y hy => .inr (by simp at hy; omega))
    have hsX := hMX.size
    have hhX0 := hhX
    have hch := wCheck_cps m k e1 (by omega) sv (by unfold maxLen; omega) (by unfold maxLen; omega) (by omega) (fun y hy => by have := z4 y hy; unfold maxLen; omega) wY (Rd.own hown)
    clear cX dX hhX hrX hq hg z1 z2 z3 z4
    obtain ⟨mk, ⟨ma, mb, mc⟩, maud, mmbs, mbody, myes, mtag⟩ := m
    unfold msgV msgC at hch
    unfold msgC at hhY
    simp only at hch hhY hown e1 h1 hX
    have cY := fun o => cellOf (o := o) hhY
    simp (config := { maxSteps := 1000000 }) (disch := first | omega | (simp only [sizeAlloc, sizeDrew, sizeSet, sizePut] <;> omega) | fail) only [GS1, GS2, GS3, GS4, GS5, GS6, GS7, GS8, GS9, GS10, GS11, TT_eq, TTl, Nat.reduceAdd, Nat.reduceMul, Nat.reduceSub, Nat.reduceDiv, Nat.reduceMod, Nat.reducePow, Nat.reduceEqDiff, ↓reduceIte, reduceCtorEq, true_and, and_true, and_self, false_and, and_false, Int.reduceToNat, Int.reduceAdd, Int.reduceSub, Int.reduceMul, cond_true, cond_false, List.toList_toArray, Option.map_some, Option.map_none, Option.some.injEq, List.cons_append, List.nil_append, List.length_cons, List.length_nil, List.getD_cons_zero, List.getD_cons_succ, cY]
    refine ⟨fok19, hch _ fun wZ hMZ => .inl ⟨_, rfl, hold_ops okT (rs := [.cell 2 42]) rfl ?_⟩⟩
    have hhZ := hMZ.get hhY (by simp)
    have hMWZ := hMWY.trans hMZ (by simp)
    have hownZ := ownsRow_mod hown hMZ (by simp)
    have cZ := fun o => cellOf (o := o) hhZ
    have xZ := fun o => frozenOf (o := o) hhZ
    unfold checkE
    cases hcB : checkB k ⟨mk, (ma, mb, mc), maud, mmbs, mbody, myes, mtag⟩
    · rw [hcB] at hX
      simp only [Bool.false_eq_true, if_false] at hX ⊢
      simp (config := { maxSteps := 1000000 }) (disch := first | omega | (simp only [sizeAlloc, sizeDrew, sizeSet, sizePut] <;> omega) | fail) only [GS1, GS2, GS3, GS4, GS5, GS6, GS7, GS8, GS9, GS10, GS11, TT_eq, TTl, Nat.reduceAdd, Nat.reduceMul, Nat.reduceSub, Nat.reduceDiv, Nat.reduceMod, Nat.reducePow, Nat.reduceEqDiff, ↓reduceIte, reduceCtorEq, true_and, and_true, and_self, false_and, and_false, Int.reduceToNat, Int.reduceAdd, Int.reduceSub, Int.reduceMul, cond_true, cond_false, List.toList_toArray, Option.map_some, Option.map_none, Option.some.injEq, List.cons_append, List.nil_append, List.length_cons, List.length_nil, List.getD_cons_zero, List.getD_cons_succ]
      refine ⟨fok95, wMust_cps _ _ _ (fun h => absurd h (by simp)) (fun _ => .inr ⟨_, rfl, hold_ex okT (rs := [.cell 2 42]) rfl ?_⟩)⟩
      simp (config := { maxSteps := 1000000 }) (disch := first | omega | (simp only [sizeAlloc, sizeDrew, sizeSet, sizePut] <;> omega) | fail) only [GS1, GS2, GS3, GS4, GS5, GS6, GS7, GS8, GS9, GS10, GS11, TT_eq, TTl, Nat.reduceAdd, Nat.reduceMul, Nat.reduceSub, Nat.reduceDiv, Nat.reduceMod, Nat.reducePow, Nat.reduceEqDiff, ↓reduceIte, reduceCtorEq, true_and, and_true, and_self, false_and, and_false, Int.reduceToNat, Int.reduceAdd, Int.reduceSub, Int.reduceMul, cond_true, cond_false, List.toList_toArray, Option.map_some, Option.map_none, Option.some.injEq, List.cons_append, List.nil_append, List.length_cons, List.length_nil, List.getD_cons_zero, List.getD_cons_succ]
      exact h0 hX.symm _ hMWZ
    rw [hcB] at hX
    simp only [if_true] at hX ⊢
    simp (config := { maxSteps := 1000000 }) (disch := first | omega | (simp only [sizeAlloc, sizeDrew, sizeSet, sizePut] <;> omega) | fail) only [GS1, GS2, GS3, GS4, GS5, GS6, GS7, GS8, GS9, GS10, GS11, TT_eq, TTl, Nat.reduceAdd, Nat.reduceMul, Nat.reduceSub, Nat.reduceDiv, Nat.reduceMod, Nat.reducePow, Nat.reduceEqDiff, ↓reduceIte, reduceCtorEq, true_and, and_true, and_self, false_and, and_false, Int.reduceToNat, Int.reduceAdd, Int.reduceSub, Int.reduceMul, cond_true, cond_false, List.toList_toArray, Option.map_some, Option.map_none, Option.some.injEq, List.cons_append, List.nil_append, List.length_cons, List.length_nil, List.getD_cons_zero, List.getD_cons_succ]
    refine ⟨fok95, wMust_cps _ _ _ (fun _ => .inl ⟨_, rfl, hold_ops okT (rs := [.cell 2 42]) rfl ?_⟩) (fun h => absurd h (by simp))⟩
    have hsv := ownsRow_one hownZ
    simp (config := { maxSteps := 1000000 }) (disch := first | omega | (simp only [sizeAlloc, sizeDrew, sizeSet, sizePut] <;> omega) | fail) only [GS1, GS2, GS3, GS4, GS5, GS6, GS7, GS8, GS9, GS10, GS11, TT_eq, TTl, Nat.reduceAdd, Nat.reduceMul, Nat.reduceSub, Nat.reduceDiv, Nat.reduceMod, Nat.reducePow, Nat.reduceEqDiff, ↓reduceIte, reduceCtorEq, true_and, and_true, and_self, false_and, and_false, Int.reduceToNat, Int.reduceAdd, Int.reduceSub, Int.reduceMul, cond_true, cond_false, List.toList_toArray, Option.map_some, Option.map_none, Option.some.injEq, List.cons_append, List.nil_append, List.length_cons, List.length_nil, List.getD_cons_zero, List.getD_cons_succ, cZ, xZ, cellsL_one hsv, hsv, loadW]
    have hge : w.heap.size ≤ n := by omega
    have hnX : n < wX.heap.size := (Array.getElem?_eq_some_iff.1 hhX0).1
    have hhE : (((((((((wZ.setCell ⟨n, 0, none⟩ (.int .u8 mk)).setCell ⟨n, 1, none⟩ (.int .i64 ma)).setCell ⟨n, 2, none⟩ (.int .i64 mb)).setCell ⟨n, 3, none⟩ (.int .i64 mc)).setCell ⟨n, 4, none⟩ (.int .i64 maud)).setCell ⟨n, 5, none⟩ sv).setCell ⟨n, 6, none⟩ (.string ⟨mbody.toArray⟩)).setCell ⟨n, 7, none⟩ (.bool myes)).setCell ⟨n, 8, none⟩ (.string ⟨mtag.toArray⟩)).heap[n]? = some (.cells #[.int .u8 mk, .int .i64 ma, .int .i64 mb, .int .i64 mc, .int .i64 maud, sv, .string ⟨mbody.toArray⟩, .bool myes, .string ⟨mtag.toArray⟩] 42 (0, 0)) := by
      exact st9 hhZ
    have hoE : (((((((((wZ.setCell ⟨n, 0, none⟩ (.int .u8 mk)).setCell ⟨n, 1, none⟩ (.int .i64 ma)).setCell ⟨n, 2, none⟩ (.int .i64 mb)).setCell ⟨n, 3, none⟩ (.int .i64 mc)).setCell ⟨n, 4, none⟩ (.int .i64 maud)).setCell ⟨n, 5, none⟩ sv).setCell ⟨n, 6, none⟩ (.string ⟨mbody.toArray⟩)).setCell ⟨n, 7, none⟩ (.bool myes)).setCell ⟨n, 8, none⟩ (.string ⟨mtag.toArray⟩)).ownsRow n 59 2 sv mmbs.length (mmbs.flatMap mbC) := (ownsRow_base (ownsRow_mod (S := [n]) hownZ (((((((((((Mod.refl [n] wZ).set (p := ⟨n, 0, none⟩) (.inl (by simp)) (.int .u8 mk)).set (p := ⟨n, 1, none⟩) (.inl (by simp)) (.int .i64 ma)).set (p := ⟨n, 2, none⟩) (.inl (by simp)) (.int .i64 mb)).set (p := ⟨n, 3, none⟩) (.inl (by simp)) (.int .i64 mc)).set (p := ⟨n, 4, none⟩) (.inl (by simp)) (.int .i64 maud)).set (p := ⟨n, 5, none⟩) (.inl (by simp)) sv).set (p := ⟨n, 6, none⟩) (.inl (by simp)) (.string ⟨mbody.toArray⟩)).set (p := ⟨n, 7, none⟩) (.inl (by simp)) (.bool myes)).set (p := ⟨n, 8, none⟩) (.inl (by simp)) (.string ⟨mtag.toArray⟩))) (by simp; omega)) (by omega))
    have hME : Mod [] w (((((((((wZ.setCell ⟨n, 0, none⟩ (.int .u8 mk)).setCell ⟨n, 1, none⟩ (.int .i64 ma)).setCell ⟨n, 2, none⟩ (.int .i64 mb)).setCell ⟨n, 3, none⟩ (.int .i64 mc)).setCell ⟨n, 4, none⟩ (.int .i64 maud)).setCell ⟨n, 5, none⟩ sv).setCell ⟨n, 6, none⟩ (.string ⟨mbody.toArray⟩)).setCell ⟨n, 7, none⟩ (.bool myes)).setCell ⟨n, 8, none⟩ (.string ⟨mtag.toArray⟩)) := ((((((((((hMWZ.set (p := ⟨n, 0, none⟩) (.inr hge) (.int .u8 mk)).set (p := ⟨n, 1, none⟩) (.inr hge) (.int .i64 ma)).set (p := ⟨n, 2, none⟩) (.inr hge) (.int .i64 mb)).set (p := ⟨n, 3, none⟩) (.inr hge) (.int .i64 mc)).set (p := ⟨n, 4, none⟩) (.inr hge) (.int .i64 maud)).set (p := ⟨n, 5, none⟩) (.inr hge) sv).set (p := ⟨n, 6, none⟩) (.inr hge) (.string ⟨mbody.toArray⟩)).set (p := ⟨n, 7, none⟩) (.inr hge) (.bool myes)).set (p := ⟨n, 8, none⟩) (.inr hge) (.string ⟨mtag.toArray⟩)))
    revert hhE hoE hME
    generalize (((((((((wZ.setCell ⟨n, 0, none⟩ (.int .u8 mk)).setCell ⟨n, 1, none⟩ (.int .i64 ma)).setCell ⟨n, 2, none⟩ (.int .i64 mb)).setCell ⟨n, 3, none⟩ (.int .i64 mc)).setCell ⟨n, 4, none⟩ (.int .i64 maud)).setCell ⟨n, 5, none⟩ sv).setCell ⟨n, 6, none⟩ (.string ⟨mbody.toArray⟩)).setCell ⟨n, 7, none⟩ (.bool myes)).setCell ⟨n, 8, none⟩ (.string ⟨mtag.toArray⟩)) = wE
    intro hhE hoE hME
    have cE := fun o => cellOf (o := o) hhE
    exact ⟨_, cE 0, _, cE 1, _, cE 2, _, cE 3, _, cE 4, _, cE 5, _, cE 6, _, cE 7, _, cE 8, h1 _ sv _ hX.symm hoE hME⟩
  · have h6n : ¬ k = 6 := by omega
    unfold decK txL at hX
    rw [if_neg h6n] at hX
    have hhs : (w9.setCell ⟨n, 0, none⟩ (.int .u8 k)).heap[n]? = some (.cells (msgC (m0 k (0, 0, 0)) (.slice none 0 0)).toArray 42 (0, 0)) := by
      rw [heapSet hh9]; rfl
    have hbs : (w9.setCell ⟨n, 0, none⟩ (.int .u8 k)).heap[b4]? = _ := heapSetNe hb9 (by omega)
    have hMs : Mod [] w (w9.setCell ⟨n, 0, none⟩ (.int .u8 k)) := hM9.set (p := ⟨n, 0, none⟩) (.inr (by show w.heap.size ≤ n; omega)) _
    have hrs := hr9'.mod ((Mod.refl [n] w9).set (p := ⟨n, 0, none⟩) (.inl (by simp)) (.int .u8 k)) (fun b hb => by simp only [blkOf, Option.some.injEq] at hb; subst hb; simp; omega)
    cases r with
    | nil =>
      simp only at hX
      simp (config := { maxSteps := 1000000 }) (disch := first | omega | (simp only [sizeAlloc, sizeDrew, sizeSet, sizePut] <;> omega) | fail) only [GS1, GS2, GS3, GS4, GS5, GS6, GS7, GS8, GS9, GS10, GS11, TT_eq, TTl, Nat.reduceAdd, Nat.reduceMul, Nat.reduceSub, Nat.reduceDiv, Nat.reduceMod, Nat.reducePow, Nat.reduceEqDiff, ↓reduceIte, reduceCtorEq, true_and, and_true, and_self, false_and, and_false, Int.reduceToNat, Int.reduceAdd, Int.reduceSub, Int.reduceMul, cond_true, cond_false, List.toList_toArray, Option.map_some, Option.map_none, Option.some.injEq, List.cons_append, List.nil_append, List.length_cons, List.length_nil, List.getD_cons_zero, List.getD_cons_succ, x9, c9, d9, h6, List.length_nil, List.length_cons, Nat.zero_add, Nat.add_sub_cancel, eo2]
      refine ⟨fok95, wMust_cps _ _ _ (fun h => absurd h (by simp)) (fun _ => .inr ⟨_, rfl, hold_ex okT (rs := [.cell 2 42]) rfl ?_⟩)⟩
      simp (config := { maxSteps := 1000000 }) (disch := first | omega | (simp only [sizeAlloc, sizeDrew, sizeSet, sizePut] <;> omega) | fail) only [GS1, GS2, GS3, GS4, GS5, GS6, GS7, GS8, GS9, GS10, GS11, TT_eq, TTl, Nat.reduceAdd, Nat.reduceMul, Nat.reduceSub, Nat.reduceDiv, Nat.reduceMod, Nat.reducePow, Nat.reduceEqDiff, ↓reduceIte, reduceCtorEq, true_and, and_true, and_self, false_and, and_false, Int.reduceToNat, Int.reduceAdd, Int.reduceSub, Int.reduceMul, cond_true, cond_false, List.toList_toArray, Option.map_some, Option.map_none, Option.some.injEq, List.cons_append, List.nil_append, List.length_cons, List.length_nil, List.getD_cons_zero, List.getD_cons_succ]
      exact h0 hX.symm _ hMs
    | cons t q =>
      simp only at hX
      have hpos : (0 : Int) < ((q.length + 1 : Nat) : Int) := by omega
      simp (config := { maxSteps := 1000000 }) (disch := first | omega | (simp only [sizeAlloc, sizeDrew, sizeSet, sizePut] <;> omega) | fail) only [GS1, GS2, GS3, GS4, GS5, GS6, GS7, GS8, GS9, GS10, GS11, TT_eq, TTl, Nat.reduceAdd, Nat.reduceMul, Nat.reduceSub, Nat.reduceDiv, Nat.reduceMod, Nat.reducePow, Nat.reduceEqDiff, ↓reduceIte, reduceCtorEq, true_and, and_true, and_self, false_and, and_false, Int.reduceToNat, Int.reduceAdd, Int.reduceSub, Int.reduceMul, cond_true, cond_false, List.toList_toArray, Option.map_some, Option.map_none, Option.some.injEq, List.cons_append, List.nil_append, List.length_cons, List.length_nil, List.getD_cons_zero, List.getD_cons_succ, x9, c9, d9, h6, List.length_cons, Nat.add_sub_cancel, eo2, hpos]
      refine ⟨fok95, wMust_cps _ _ _ (fun _ => .inl ⟨_, rfl, hold_ops okT (rs := [.cell 2 42]) rfl ?_⟩) (fun h => absurd h (by simp))⟩
      revert hhs hbs hMs hrs
      generalize w9.setCell ⟨n, 0, none⟩ (.int .u8 k) = ws
      intro hhs hbs hMs hrs
      simp (config := { maxSteps := 1000000 }) (disch := first | omega | (simp only [sizeAlloc, sizeDrew, sizeSet, sizePut] <;> omega) | fail) only [GS1, GS2, GS3, GS4, GS5, GS6, GS7, GS8, GS9, GS10, GS11, TT_eq, TTl, Nat.reduceAdd, Nat.reduceMul, Nat.reduceSub, Nat.reduceDiv, Nat.reduceMod, Nat.reducePow, Nat.reduceEqDiff, ↓reduceIte, reduceCtorEq, true_and, and_true, and_self, false_and, and_false, Int.reduceToNat, Int.reduceAdd, Int.reduceSub, Int.reduceMul, cond_true, cond_false, List.toList_toArray, Option.map_some, Option.map_none, Option.some.injEq, List.cons_append, List.nil_append, List.length_cons, List.length_nil, List.getD_cons_zero, List.getD_cons_succ]
      refine hold_draw okT (rs := [.cell 2 42]) rfl [0, 1, 3, 7, 0, 16, 15, 79, 255] [0, 1, 2, 4, 5, 3, 6, 7, 8] (by kernel_rfl) (by kernel_rfl) ?_
      have hhd : (ws.drewN 1).heap[n]? = _ := hhs
      have hbd : (ws.drewN 1).heap[b4]? = _ := hbs
      have hMd := hMs.drewN 1
      have hrd := hrs.mod (Mod.drewN 1 (Mod.refl [] ws)) (by simp)
      generalize ws.drewN 1 = wd at *
      obtain ⟨b', o', c', e', _, g'⟩ := hrd.at (by omega) (by simp)
      have fT : wd.cell? ⟨b', o', none⟩ = some (.string ⟨t.toArray⟩) := g' 0 _ rfl
      rw [Value.slice.injEq, Option.some.injEq, Addr.mk.injEq] at e'
      obtain ⟨⟨rfl, rfl, -⟩, -, -⟩ := e'
      have cd := fun o => cellOf (o := o) hhd
      have xd := fun o => frozenOf (o := o) hhd
      simp (config := { maxSteps := 1000000 }) (disch := first | omega | (simp only [sizeAlloc, sizeDrew, sizeSet, sizePut] <;> omega) | fail) only [GS1, GS2, GS3, GS4, GS5, GS6, GS7, GS8, GS9, GS10, GS11, TT_eq, TTl, Nat.reduceAdd, Nat.reduceMul, Nat.reduceSub, Nat.reduceDiv, Nat.reduceMod, Nat.reducePow, Nat.reduceEqDiff, ↓reduceIte, reduceCtorEq, true_and, and_true, and_self, false_and, and_false, Int.reduceToNat, Int.reduceAdd, Int.reduceSub, Int.reduceMul, cond_true, cond_false, List.toList_toArray, Option.map_some, Option.map_none, Option.some.injEq, List.cons_append, List.nil_append, List.length_cons, List.length_nil, List.getD_cons_zero, List.getD_cons_succ, fT, xd]
      have zt := (check0 (hpc t (by simp))).2.2.1
      obtain ⟨o3, eo3⟩ := tail_at (b := b1) (o := o2) (c := c1 - 1)
      have hrd' := rd_tail (show Rd wd 1 (.slice (some ⟨b1, o2, none⟩) (q.length + 1) (c1 - 1)) (q.length + 1) (strV t :: q.map strV) from hrd)
      rw [eo3] at hrd'
      refine ⟨fok96, wUntxn_cps t (by unfold maxLen; omega) _ _ (fun x wU hu hMU => .inl ⟨_, rfl, hold_dops okT (rs := [.cell 2 42]) rfl ?_⟩) (fun hu wU hMU => .inr ⟨_, rfl, fun fs' => hold_ex okT (rs := [.cell 2 42]) rfl ?_⟩)⟩
      rotate_left
      · rw [hu] at hX
        simp (config := { maxSteps := 1000000 }) (disch := first | omega | (simp only [sizeAlloc, sizeDrew, sizeSet, sizePut] <;> omega) | fail) only [GS1, GS2, GS3, GS4, GS5, GS6, GS7, GS8, GS9, GS10, GS11, TT_eq, TTl, Nat.reduceAdd, Nat.reduceMul, Nat.reduceSub, Nat.reduceDiv, Nat.reduceMod, Nat.reducePow, Nat.reduceEqDiff, ↓reduceIte, reduceCtorEq, true_and, and_true, and_self, false_and, and_false, Int.reduceToNat, Int.reduceAdd, Int.reduceSub, Int.reduceMul, cond_true, cond_false, List.toList_toArray, Option.map_some, Option.map_none, Option.some.injEq, List.cons_append, List.nil_append, List.length_cons, List.length_nil, List.getD_cons_zero, List.getD_cons_succ]
        exact h0 hX.symm _ (hMd.trans hMU (by simp))
      rw [hu] at hX
      simp only [Option.map_some] at hX
      obtain ⟨x1, x2, x3⟩ := x
      unfold txV
      have hhU := hMU.get hhd (by simp)
      have hbU := hMU.get hbd (by simp)
      have hMdU := hMd.trans hMU (by simp)
      have hrU := hrd'.mod hMU (by simp)
      have hhU : wU.heap[n]? = some (.cells #[.int .u8 k, .int .i64 0, .int .i64 0, .int .i64 0, .int .i64 0, .slice none 0 0, .string ⟨#[]⟩, .bool false, .string ⟨#[]⟩] 42 (0, 0)) := hhU
      have xU := fun o => frozenOf (o := o) hhU
      have cU := fun o => cellOf (o := o) hhU
      clear hhd hbd hMd hrd hrd' cd xd fT g'
      have dU := fun o => cellOf (o := o) hbU
      simp (config := { maxSteps := 1000000 }) (disch := first | omega | (simp only [sizeAlloc, sizeDrew, sizeSet, sizePut] <;> omega) | fail) only [GS1, GS2, GS3, GS4, GS5, GS6, GS7, GS8, GS9, GS10, GS11, TT_eq, TTl, Nat.reduceAdd, Nat.reduceMul, Nat.reduceSub, Nat.reduceDiv, Nat.reduceMod, Nat.reducePow, Nat.reduceEqDiff, ↓reduceIte, reduceCtorEq, true_and, and_true, and_self, false_and, and_false, Int.reduceToNat, Int.reduceAdd, Int.reduceSub, Int.reduceMul, cond_true, cond_false, List.toList_toArray, Option.map_some, Option.map_none, Option.some.injEq, List.cons_append, List.nil_append, List.length_cons, List.length_nil, List.getD_cons_zero, List.getD_cons_succ, xU, cU, dU, eo3, Nat.add_sub_cancel]
      have hhX : (((wU.setCell ⟨n, 1, none⟩ (.int .i64 x1)).setCell ⟨n, 2, none⟩ (.int .i64 x2)).setCell ⟨n, 3, none⟩ (.int .i64 x3)).heap[n]? = some (.cells (msgC (m0 k (x1, x2, x3)) (.slice none 0 0)).toArray 42 (0, 0)) := by
        rw [heapSet (heapSet (heapSet hhU))]; rfl
      have hbX : (((wU.setCell ⟨n, 1, none⟩ (.int .i64 x1)).setCell ⟨n, 2, none⟩ (.int .i64 x2)).setCell ⟨n, 3, none⟩ (.int .i64 x3)).heap[b4]? = _ := heapSetNe (heapSetNe (heapSetNe hbU (by omega)) (by omega)) (by omega)
      have hge : w.heap.size ≤ n := by omega
      have hMX := ((hMdU.set (p := ⟨n, 1, none⟩) (.inr hge) (.int .i64 x1)).set (p := ⟨n, 2, none⟩) (.inr hge) (.int .i64 x2)).set (p := ⟨n, 3, none⟩) (.inr hge) (.int .i64 x3)
      have hrX := hrU.mod ((((Mod.refl [n] wU).set (p := ⟨n, 1, none⟩) (.inl (by simp)) (.int .i64 x1)).set (p := ⟨n, 2, none⟩) (.inl (by simp)) (.int .i64 x2)).set (p := ⟨n, 3, none⟩) (.inl (by simp)) (.int .i64 x3)) (fun b hb => by simp only [blkOf, Option.some.injEq] at hb; subst hb; simp; omega)
      have hq : ∀ t ∈ q, checkS t = 0 := fun t ht => hpc t (by simp [ht])
      revert hhX hbX hMX hrX
      generalize ((wU.setCell ⟨n, 1, none⟩ (.int .i64 x1)).setCell ⟨n, 2, none⟩ (.int .i64 x2)).setCell ⟨n, 3, none⟩ (.int .i64 x3) = wX
      intro hhX hbX hMX hrX
      unfold decR at hX
      try clear hIt
      try clear hIt7
      try clear hIt8
      try clear hEnt
      try clear hfit
      try clear hin
      try clear hleft
      try clear hM67
      try clear hM06
      try clear hM07
      try clear hM08
      try clear hM8
      try clear hh6
      try clear hh7
      try clear hh8
      try clear hr6
      try clear hr7
      try clear hr8
      try clear hr9
      try clear hr9'
      try clear hh9
      try clear hb9
      try clear hM9
      try clear x9
      try clear c9
      try clear d9
      try clear hhs
      try clear hbs
      try clear hMs
      try clear hrs
      try clear hhU
      try clear hbU
      try clear hMdU
      try clear hrU
      try clear xU
      try clear cU
      try clear dU
      try clear ek
      try clear hu
      try clear hw0
      try clear hl
      have hLQ : q.length ≤ 5 := by simp only [List.length_cons] at hl5; omega
      have cX := fun o => cellOf (o := o) hhX
      have dX := fun o => cellOf (o := o) hbX
      by_cases ha : ((mnAt k : Nat) : Int) ≤ ((q.length : Nat) : Int)
      rotate_left
      · rw [if_neg (fun h => ha (by have := h.1; omega))] at hX
        simp (config := { maxSteps := 1000000 }) (disch := first | omega | (simp only [sizeAlloc, sizeDrew, sizeSet, sizePut] <;> omega) | fail) only [GS1, GS2, GS3, GS4, GS5, GS6, GS7, GS8, GS9, GS10, GS11, TT_eq, TTl, Nat.reduceAdd, Nat.reduceMul, Nat.reduceSub, Nat.reduceDiv, Nat.reduceMod, Nat.reducePow, Nat.reduceEqDiff, ↓reduceIte, reduceCtorEq, true_and, and_true, and_self, false_and, and_false, Int.reduceToNat, Int.reduceAdd, Int.reduceSub, Int.reduceMul, cond_true, cond_false, List.toList_toArray, Option.map_some, Option.map_none, Option.some.injEq, List.cons_append, List.nil_append, List.length_cons, List.length_nil, List.getD_cons_zero, List.getD_cons_succ, dX, ha]
        refine ⟨fok95, wMust_cps _ _ _ (fun h => absurd h (by simp)) (fun _ => .inr ⟨_, rfl, hold_ex okT (rs := [.cell 2 42]) rfl ?_⟩)⟩
        simp (config := { maxSteps := 1000000 }) (disch := first | omega | (simp only [sizeAlloc, sizeDrew, sizeSet, sizePut] <;> omega) | fail) only [GS1, GS2, GS3, GS4, GS5, GS6, GS7, GS8, GS9, GS10, GS11, TT_eq, TTl, Nat.reduceAdd, Nat.reduceMul, Nat.reduceSub, Nat.reduceDiv, Nat.reduceMod, Nat.reducePow, Nat.reduceEqDiff, ↓reduceIte, reduceCtorEq, true_and, and_true, and_self, false_and, and_false, Int.reduceToNat, Int.reduceAdd, Int.reduceSub, Int.reduceMul, cond_true, cond_false, List.toList_toArray, Option.map_some, Option.map_none, Option.some.injEq, List.cons_append, List.nil_append, List.length_cons, List.length_nil, List.getD_cons_zero, List.getD_cons_succ]
        exact h0 hX.symm _ hMX
      by_cases hb : ((q.length : Nat) : Int) ≤ ((mxAt k : Nat) : Int)
      rotate_left
      · rw [if_neg (fun h => hb (by have := h.2; omega))] at hX
        simp (config := { maxSteps := 1000000 }) (disch := first | omega | (simp only [sizeAlloc, sizeDrew, sizeSet, sizePut] <;> omega) | fail) only [GS1, GS2, GS3, GS4, GS5, GS6, GS7, GS8, GS9, GS10, GS11, TT_eq, TTl, Nat.reduceAdd, Nat.reduceMul, Nat.reduceSub, Nat.reduceDiv, Nat.reduceMod, Nat.reducePow, Nat.reduceEqDiff, ↓reduceIte, reduceCtorEq, true_and, and_true, and_self, false_and, and_false, Int.reduceToNat, Int.reduceAdd, Int.reduceSub, Int.reduceMul, cond_true, cond_false, List.toList_toArray, Option.map_some, Option.map_none, Option.some.injEq, List.cons_append, List.nil_append, List.length_cons, List.length_nil, List.getD_cons_zero, List.getD_cons_succ, dX, ha, hb]
        refine ⟨fok95, wMust_cps _ _ _ (fun h => absurd h (by simp)) (fun _ => .inr ⟨_, rfl, hold_ex okT (rs := [.cell 2 42]) rfl ?_⟩)⟩
        simp (config := { maxSteps := 1000000 }) (disch := first | omega | (simp only [sizeAlloc, sizeDrew, sizeSet, sizePut] <;> omega) | fail) only [GS1, GS2, GS3, GS4, GS5, GS6, GS7, GS8, GS9, GS10, GS11, TT_eq, TTl, Nat.reduceAdd, Nat.reduceMul, Nat.reduceSub, Nat.reduceDiv, Nat.reduceMod, Nat.reducePow, Nat.reduceEqDiff, ↓reduceIte, reduceCtorEq, true_and, and_true, and_self, false_and, and_false, Int.reduceToNat, Int.reduceAdd, Int.reduceSub, Int.reduceMul, cond_true, cond_false, List.toList_toArray, Option.map_some, Option.map_none, Option.some.injEq, List.cons_append, List.nil_append, List.length_cons, List.length_nil, List.getD_cons_zero, List.getD_cons_succ]
        exact h0 hX.symm _ hMX
      have hnn2 : mnAt k ≤ q.length ∧ q.length ≤ mxAt k := ⟨by omega, by omega⟩
      rw [if_pos hnn2] at hX
      simp (config := { maxSteps := 1000000 }) (disch := first | omega | (simp only [sizeAlloc, sizeDrew, sizeSet, sizePut] <;> omega) | fail) only [GS1, GS2, GS3, GS4, GS5, GS6, GS7, GS8, GS9, GS10, GS11, TT_eq, TTl, Nat.reduceAdd, Nat.reduceMul, Nat.reduceSub, Nat.reduceDiv, Nat.reduceMod, Nat.reducePow, Nat.reduceEqDiff, ↓reduceIte, reduceCtorEq, true_and, and_true, and_self, false_and, and_false, Int.reduceToNat, Int.reduceAdd, Int.reduceSub, Int.reduceMul, cond_true, cond_false, List.toList_toArray, Option.map_some, Option.map_none, Option.some.injEq, List.cons_append, List.nil_append, List.length_cons, List.length_nil, List.getD_cons_zero, List.getD_cons_succ, dX, ha, hb]
      refine ⟨fok95, wMust_cps _ _ _ (fun _ => .inl ⟨_, rfl, hold_ops okT (rs := [.cell 2 42]) rfl ?_⟩) (fun h => absurd h (by simp))⟩
      simp (config := { maxSteps := 1000000 }) (disch := first | omega | (simp only [sizeAlloc, sizeDrew, sizeSet, sizePut] <;> omega) | fail) only [GS1, GS2, GS3, GS4, GS5, GS6, GS7, GS8, GS9, GS10, GS11, TT_eq, TTl, Nat.reduceAdd, Nat.reduceMul, Nat.reduceSub, Nat.reduceDiv, Nat.reduceMod, Nat.reducePow, Nat.reduceEqDiff, ↓reduceIte, reduceCtorEq, true_and, and_true, and_self, false_and, and_false, Int.reduceToNat, Int.reduceAdd, Int.reduceSub, Int.reduceMul, cond_true, cond_false, List.toList_toArray, Option.map_some, Option.map_none, Option.some.injEq, List.cons_append, List.nil_append, List.length_cons, List.length_nil, List.getD_cons_zero, List.getD_cons_succ, dX]
      refine ⟨rd_ok k, wRead_cps k k (x1, x2, x3) n q _ hnn2 (fun t ht => by have := (check0 (hq t ht)).2.2.1; unfold maxLen; omega) wX hhX hrX (fun b o c e => by rw [Value.slice.injEq, Option.some.injEq, Addr.mk.injEq] at e; omega) _ (fun m sv wY hg hhY hown hMY => .inl ⟨_, rfl, hold_ops okT (rs := [.cell 2 42]) rfl ?_⟩) (fun hg wY hMY => .inr ⟨_, rfl, hold_ex okT (rs := [.cell 2 42]) rfl ?_⟩)⟩
      rotate_left
      · rw [hg] at hX
        simp (config := { maxSteps := 1000000 }) (disch := first | omega | (simp only [sizeAlloc, sizeDrew, sizeSet, sizePut] <;> omega) | fail) only [GS1, GS2, GS3, GS4, GS5, GS6, GS7, GS8, GS9, GS10, GS11, TT_eq, TTl, Nat.reduceAdd, Nat.reduceMul, Nat.reduceSub, Nat.reduceDiv, Nat.reduceMod, Nat.reducePow, Nat.reduceEqDiff, ↓reduceIte, reduceCtorEq, true_and, and_true, and_self, false_and, and_false, Int.reduceToNat, Int.reduceAdd, Int.reduceSub, Int.reduceMul, cond_true, cond_false, List.toList_toArray, Option.map_some, Option.map_none, Option.some.injEq, List.cons_append, List.nil_append, List.length_cons, List.length_nil, List.getD_cons_zero, List.getD_cons_succ]
        exact h0 hX.symm _ (hMX.trans hMY (fun y hy => .inr (by simp at hy; omega)))
      rw [hg] at hX
      simp only at hX
      obtain ⟨e1, z1, z2, z3, z4⟩ := get_small hg hq hk hnn2
      have hMWY : Mod [] w wY := hMX.trans hMY (fun y hy => .inr (by simp at hy; omega))
      have hsX := hMX.size
      have hhX0 := hhX
      have hch := wCheck_cps m k e1 (by omega) sv (by unfold maxLen; omega) (by unfold maxLen; omega) (by omega) (fun y hy => by have := z4 y hy; unfold maxLen; omega) wY (Rd.own hown)
      clear cX dX hhX hrX hq hg z1 z2 z3 z4
      obtain ⟨mk, ⟨ma, mb, mc⟩, maud, mmbs, mbody, myes, mtag⟩ := m
      unfold msgV msgC at hch
      unfold msgC at hhY
      simp only at hch hhY hown e1 h1 hX
      have cY := fun o => cellOf (o := o) hhY
      simp (config := { maxSteps := 1000000 }) (disch := first | omega | (simp only [sizeAlloc, sizeDrew, sizeSet, sizePut] <;> omega) | fail) only [GS1, GS2, GS3, GS4, GS5, GS6, GS7, GS8, GS9, GS10, GS11, TT_eq, TTl, Nat.reduceAdd, Nat.reduceMul, Nat.reduceSub, Nat.reduceDiv, Nat.reduceMod, Nat.reducePow, Nat.reduceEqDiff, ↓reduceIte, reduceCtorEq, true_and, and_true, and_self, false_and, and_false, Int.reduceToNat, Int.reduceAdd, Int.reduceSub, Int.reduceMul, cond_true, cond_false, List.toList_toArray, Option.map_some, Option.map_none, Option.some.injEq, List.cons_append, List.nil_append, List.length_cons, List.length_nil, List.getD_cons_zero, List.getD_cons_succ, cY]
      refine ⟨fok19, hch _ fun wZ hMZ => .inl ⟨_, rfl, hold_ops okT (rs := [.cell 2 42]) rfl ?_⟩⟩
      have hhZ := hMZ.get hhY (by simp)
      have hMWZ := hMWY.trans hMZ (by simp)
      have hownZ := ownsRow_mod hown hMZ (by simp)
      have cZ := fun o => cellOf (o := o) hhZ
      have xZ := fun o => frozenOf (o := o) hhZ
      unfold checkE
      cases hcB : checkB k ⟨mk, (ma, mb, mc), maud, mmbs, mbody, myes, mtag⟩
      · rw [hcB] at hX
        simp only [Bool.false_eq_true, if_false] at hX ⊢
        simp (config := { maxSteps := 1000000 }) (disch := first | omega | (simp only [sizeAlloc, sizeDrew, sizeSet, sizePut] <;> omega) | fail) only [GS1, GS2, GS3, GS4, GS5, GS6, GS7, GS8, GS9, GS10, GS11, TT_eq, TTl, Nat.reduceAdd, Nat.reduceMul, Nat.reduceSub, Nat.reduceDiv, Nat.reduceMod, Nat.reducePow, Nat.reduceEqDiff, ↓reduceIte, reduceCtorEq, true_and, and_true, and_self, false_and, and_false, Int.reduceToNat, Int.reduceAdd, Int.reduceSub, Int.reduceMul, cond_true, cond_false, List.toList_toArray, Option.map_some, Option.map_none, Option.some.injEq, List.cons_append, List.nil_append, List.length_cons, List.length_nil, List.getD_cons_zero, List.getD_cons_succ]
        refine ⟨fok95, wMust_cps _ _ _ (fun h => absurd h (by simp)) (fun _ => .inr ⟨_, rfl, hold_ex okT (rs := [.cell 2 42]) rfl ?_⟩)⟩
        simp (config := { maxSteps := 1000000 }) (disch := first | omega | (simp only [sizeAlloc, sizeDrew, sizeSet, sizePut] <;> omega) | fail) only [GS1, GS2, GS3, GS4, GS5, GS6, GS7, GS8, GS9, GS10, GS11, TT_eq, TTl, Nat.reduceAdd, Nat.reduceMul, Nat.reduceSub, Nat.reduceDiv, Nat.reduceMod, Nat.reducePow, Nat.reduceEqDiff, ↓reduceIte, reduceCtorEq, true_and, and_true, and_self, false_and, and_false, Int.reduceToNat, Int.reduceAdd, Int.reduceSub, Int.reduceMul, cond_true, cond_false, List.toList_toArray, Option.map_some, Option.map_none, Option.some.injEq, List.cons_append, List.nil_append, List.length_cons, List.length_nil, List.getD_cons_zero, List.getD_cons_succ]
        exact h0 hX.symm _ hMWZ
      rw [hcB] at hX
      simp only [if_true] at hX ⊢
      simp (config := { maxSteps := 1000000 }) (disch := first | omega | (simp only [sizeAlloc, sizeDrew, sizeSet, sizePut] <;> omega) | fail) only [GS1, GS2, GS3, GS4, GS5, GS6, GS7, GS8, GS9, GS10, GS11, TT_eq, TTl, Nat.reduceAdd, Nat.reduceMul, Nat.reduceSub, Nat.reduceDiv, Nat.reduceMod, Nat.reducePow, Nat.reduceEqDiff, ↓reduceIte, reduceCtorEq, true_and, and_true, and_self, false_and, and_false, Int.reduceToNat, Int.reduceAdd, Int.reduceSub, Int.reduceMul, cond_true, cond_false, List.toList_toArray, Option.map_some, Option.map_none, Option.some.injEq, List.cons_append, List.nil_append, List.length_cons, List.length_nil, List.getD_cons_zero, List.getD_cons_succ]
      refine ⟨fok95, wMust_cps _ _ _ (fun _ => .inl ⟨_, rfl, hold_ops okT (rs := [.cell 2 42]) rfl ?_⟩) (fun h => absurd h (by simp))⟩
      have hsv := ownsRow_one hownZ
      simp (config := { maxSteps := 1000000 }) (disch := first | omega | (simp only [sizeAlloc, sizeDrew, sizeSet, sizePut] <;> omega) | fail) only [GS1, GS2, GS3, GS4, GS5, GS6, GS7, GS8, GS9, GS10, GS11, TT_eq, TTl, Nat.reduceAdd, Nat.reduceMul, Nat.reduceSub, Nat.reduceDiv, Nat.reduceMod, Nat.reducePow, Nat.reduceEqDiff, ↓reduceIte, reduceCtorEq, true_and, and_true, and_self, false_and, and_false, Int.reduceToNat, Int.reduceAdd, Int.reduceSub, Int.reduceMul, cond_true, cond_false, List.toList_toArray, Option.map_some, Option.map_none, Option.some.injEq, List.cons_append, List.nil_append, List.length_cons, List.length_nil, List.getD_cons_zero, List.getD_cons_succ, cZ, xZ, cellsL_one hsv, hsv, loadW]
      have hge : w.heap.size ≤ n := by omega
      have hnX : n < wX.heap.size := (Array.getElem?_eq_some_iff.1 hhX0).1
      have hhE : (((((((((wZ.setCell ⟨n, 0, none⟩ (.int .u8 mk)).setCell ⟨n, 1, none⟩ (.int .i64 ma)).setCell ⟨n, 2, none⟩ (.int .i64 mb)).setCell ⟨n, 3, none⟩ (.int .i64 mc)).setCell ⟨n, 4, none⟩ (.int .i64 maud)).setCell ⟨n, 5, none⟩ sv).setCell ⟨n, 6, none⟩ (.string ⟨mbody.toArray⟩)).setCell ⟨n, 7, none⟩ (.bool myes)).setCell ⟨n, 8, none⟩ (.string ⟨mtag.toArray⟩)).heap[n]? = some (.cells #[.int .u8 mk, .int .i64 ma, .int .i64 mb, .int .i64 mc, .int .i64 maud, sv, .string ⟨mbody.toArray⟩, .bool myes, .string ⟨mtag.toArray⟩] 42 (0, 0)) := by
        exact st9 hhZ
      have hoE : (((((((((wZ.setCell ⟨n, 0, none⟩ (.int .u8 mk)).setCell ⟨n, 1, none⟩ (.int .i64 ma)).setCell ⟨n, 2, none⟩ (.int .i64 mb)).setCell ⟨n, 3, none⟩ (.int .i64 mc)).setCell ⟨n, 4, none⟩ (.int .i64 maud)).setCell ⟨n, 5, none⟩ sv).setCell ⟨n, 6, none⟩ (.string ⟨mbody.toArray⟩)).setCell ⟨n, 7, none⟩ (.bool myes)).setCell ⟨n, 8, none⟩ (.string ⟨mtag.toArray⟩)).ownsRow n 59 2 sv mmbs.length (mmbs.flatMap mbC) := (ownsRow_base (ownsRow_mod (S := [n]) hownZ (((((((((((Mod.refl [n] wZ).set (p := ⟨n, 0, none⟩) (.inl (by simp)) (.int .u8 mk)).set (p := ⟨n, 1, none⟩) (.inl (by simp)) (.int .i64 ma)).set (p := ⟨n, 2, none⟩) (.inl (by simp)) (.int .i64 mb)).set (p := ⟨n, 3, none⟩) (.inl (by simp)) (.int .i64 mc)).set (p := ⟨n, 4, none⟩) (.inl (by simp)) (.int .i64 maud)).set (p := ⟨n, 5, none⟩) (.inl (by simp)) sv).set (p := ⟨n, 6, none⟩) (.inl (by simp)) (.string ⟨mbody.toArray⟩)).set (p := ⟨n, 7, none⟩) (.inl (by simp)) (.bool myes)).set (p := ⟨n, 8, none⟩) (.inl (by simp)) (.string ⟨mtag.toArray⟩))) (by simp; omega)) (by omega))
      have hME : Mod [] w (((((((((wZ.setCell ⟨n, 0, none⟩ (.int .u8 mk)).setCell ⟨n, 1, none⟩ (.int .i64 ma)).setCell ⟨n, 2, none⟩ (.int .i64 mb)).setCell ⟨n, 3, none⟩ (.int .i64 mc)).setCell ⟨n, 4, none⟩ (.int .i64 maud)).setCell ⟨n, 5, none⟩ sv).setCell ⟨n, 6, none⟩ (.string ⟨mbody.toArray⟩)).setCell ⟨n, 7, none⟩ (.bool myes)).setCell ⟨n, 8, none⟩ (.string ⟨mtag.toArray⟩)) := ((((((((((hMWZ.set (p := ⟨n, 0, none⟩) (.inr hge) (.int .u8 mk)).set (p := ⟨n, 1, none⟩) (.inr hge) (.int .i64 ma)).set (p := ⟨n, 2, none⟩) (.inr hge) (.int .i64 mb)).set (p := ⟨n, 3, none⟩) (.inr hge) (.int .i64 mc)).set (p := ⟨n, 4, none⟩) (.inr hge) (.int .i64 maud)).set (p := ⟨n, 5, none⟩) (.inr hge) sv).set (p := ⟨n, 6, none⟩) (.inr hge) (.string ⟨mbody.toArray⟩)).set (p := ⟨n, 7, none⟩) (.inr hge) (.bool myes)).set (p := ⟨n, 8, none⟩) (.inr hge) (.string ⟨mtag.toArray⟩)))
      revert hhE hoE hME
      generalize (((((((((wZ.setCell ⟨n, 0, none⟩ (.int .u8 mk)).setCell ⟨n, 1, none⟩ (.int .i64 ma)).setCell ⟨n, 2, none⟩ (.int .i64 mb)).setCell ⟨n, 3, none⟩ (.int .i64 mc)).setCell ⟨n, 4, none⟩ (.int .i64 maud)).setCell ⟨n, 5, none⟩ sv).setCell ⟨n, 6, none⟩ (.string ⟨mbody.toArray⟩)).setCell ⟨n, 7, none⟩ (.bool myes)).setCell ⟨n, 8, none⟩ (.string ⟨mtag.toArray⟩)) = wE
      intro hhE hoE hME
      have cE := fun o => cellOf (o := o) hhE
      exact ⟨_, cE 0, _, cE 1, _, cE 2, _, cE 3, _, cE 4, _, cE 5, _, cE 6, _, cE 7, _, cE 8, h1 _ sv _ hX.symm hoE hME⟩
end Go.Proofs.Ytpcilobbohokcaa
