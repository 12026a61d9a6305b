/-
  What the reference says of a step (walks).
-/
import Derived.Test.YticoollhaachfaaFrg2
set_option linter.unusedSimpArgs false
set_option linter.unusedVariables false
namespace Go.Proofs.Yticoollhaachfaa
open Go Go.Wk Go.RowKit
attribute [local irreducible] go Hold
open Go.Lib
theorem walk_root (S : List UInt8) {h : List UInt8} {k : Fr} {p : Nat} {rest : List UInt8} (h1 : Hd h (cntF k)) (h2 : okF k) (h3 : hgtF k ≤ 15) (hr : S.drop p = h ++ encF k ++ rest) : (walkS S 16 1 p).1 = p + (h ++ encF k).length ∧ (walkS S 16 1 p).2.1 = 0 := by
  have := walk_of S (.cons h k .nil) 16 1 p ⟨h1, h2, trivial⟩ (by simp only [hgtF]; omega) ⟨rest, by simp only [encF, List.append_nil]; exact hr⟩
  simp only [cntF, kidsW, encF, endF, List.append_nil] at this
  by_cases h0 : (walkS S 16 1 p).2.1 = 0
  · rw [if_pos h0] at this
    simp only [Prod.mk.injEq] at this
    exact ⟨this.1, h0⟩
  · rw [if_neg h0] at this
    simp only [Prod.mk.injEq] at this
    exact absurd this.2.1 h0
set_option maxRecDepth 20000 in
set_option maxHeartbeats 8000000 in
theorem rparts_cps {S h : List UInt8} {k : Fr} (t : Tr S h k) (w : World) (R : Ending → World → Prop) (hR : ∀ sv w', w'.ownsRow w.heap.size 9 1 sv (rootsF k).length ((rootsF k).map strV) → Mod [] w w' → R (.returned sv) w') :
    Calls Try.prog 67 #[.string ⟨S.toArray⟩] w R := by
  have hSl := t.2.2.2.2
  have hS : S.length ≤ maxLen := by unfold maxLen; omega
  have hf := front_of t.2.1 (encF k)
  rw [← t.1] at hf
  have hk32 := (frontS_len hf).2.2
  have hhl := (frontS_len hf).1
  refine calls_go 4000 okT Try.func67 rfl (rs := [.tmp 2]) rfl Try.ntmps67 (args := [.string ⟨S.toArray⟩]) ?_
  simp (config := { maxSteps := 1000000 }) (disch := first | omega | (simp only [sizeAlloc, sizeDrew, sizeSet, sizePut] <;> omega) | fail) only [GS1, GS2, GS3, GS4, GS5, GS6, GS7, GS8, GS9, GS10, GS11, TT_eq, TTl, Nat.reduceAdd, Nat.reduceMul, Nat.reduceSub, Nat.reduceDiv, Nat.reduceMod, Nat.reducePow, Nat.reduceEqDiff, ↓reduceIte, reduceCtorEq, true_and, and_true, and_self, false_and, and_false, Int.reduceToNat, Int.reduceAdd, Int.reduceSub, Int.reduceMul, cond_true, cond_false, List.toList_toArray, Option.map_some, Option.map_none, Option.some.injEq, List.cons_append, List.nil_append, List.length_cons, List.length_nil, List.getD_cons_zero, List.getD_cons_succ]
  refine ⟨fok91, rHead_cps S hS _ _ fun w1 hM1 => .inl ⟨_, rfl, hold_ops okT (rs := [.tmp 2]) rfl ?_⟩⟩
  rw [hf]
  unfold frV
  simp (config := { maxSteps := 1000000 }) (disch := first | omega | (simp only [sizeAlloc, sizeDrew, sizeSet, sizePut] <;> omega) | fail) only [GS1, GS2, GS3, GS4, GS5, GS6, GS7, GS8, GS9, GS10, GS11, TT_eq, TTl, Nat.reduceAdd, Nat.reduceMul, Nat.reduceSub, Nat.reduceDiv, Nat.reduceMod, Nat.reducePow, Nat.reduceEqDiff, ↓reduceIte, reduceCtorEq, true_and, and_true, and_self, false_and, and_false, Int.reduceToNat, Int.reduceAdd, Int.reduceSub, Int.reduceMul, cond_true, cond_false, List.toList_toArray, Option.map_some, Option.map_none, Option.some.injEq, List.cons_append, List.nil_append, List.length_cons, List.length_nil, List.getD_cons_zero, List.getD_cons_succ]
  refine hold_loop okT (rs := [.tmp 2]) rfl [3, 6, 7] [8, 9, 16, 17, 18, 19, 20, 21, 22, 23, 24, 25, 26, 27, 28, 29, 30, 31, 32, 33, 34, 35, 36, 37, 38, 39] (fun vs w' => ∃ (j p : Nat) (F : Fr) (l : List (List UInt8)) (pv : Value), vs = [.int .i64 p, pv, .int .i64 j] ∧ j + cntF F = cntF k ∧ l.length = j ∧ okF F ∧ hgtF F ≤ 15 ∧ S.drop p = encF F ∧ p ≤ S.length ∧ l ++ rootsF F = rootsF k ∧ w'.ownsRow w.heap.size 9 1 pv l.length (l.map strV) ∧ Mod [] w w') (fun vs _ => match vs with | [_, _, .int _ i] => cntF k - i.toNat | _ => 0) (by kernel_rfl)
    ⟨0, h.length, k, [], _, rfl, by omega, rfl, t.2.2.1, t.2.2.2.1, by rw [t.1, List.drop_left], hhl, rfl, World.ownsRow_nil _ _ _ _, hM1⟩ ?_
  rintro vs w2 J ⟨j, p, F, l, pv, rfl, hj, hl, hok, hh, hd, hp, hro, hown, hM2⟩
  cases F with
  | nil =>
    simp only [cntF, Nat.add_zero] at hj
    subst hj
    simp only [rootsF, List.append_nil] at hro
    subst hro
    simp (config := { maxSteps := 1000000 }) (disch := first | omega | (simp only [sizeAlloc, sizeDrew, sizeSet, sizePut] <;> omega) | fail) only [GS1, GS2, GS3, GS4, GS5, GS6, GS7, GS8, GS9, GS10, GS11, TT_eq, TTl, Nat.reduceAdd, Nat.reduceMul, Nat.reduceSub, Nat.reduceDiv, Nat.reduceMod, Nat.reducePow, Nat.reduceEqDiff, ↓reduceIte, reduceCtorEq, true_and, and_true, and_self, false_and, and_false, Int.reduceToNat, Int.reduceAdd, Int.reduceSub, Int.reduceMul, cond_true, cond_false, List.toList_toArray, Option.map_some, Option.map_none, Option.some.injEq, List.cons_append, List.nil_append, List.length_cons, List.length_nil, List.getD_cons_zero, List.getD_cons_succ]
    exact hR _ _ hown hM2
  | cons h' k' r =>
    simp only [cntF] at hj
    simp only [hgtF] at hh
    simp only [encF] at hd
    simp only [rootsF] at hro
    obtain ⟨o1, o2, o3⟩ := hok
    have hlt : j < cntF k := by omega
    obtain ⟨q1, q2⟩ := walk_root S o1 o2 (by omega) hd
    have hln := congrArg List.length hd
    simp only [List.length_drop, List.length_append] at hln
    have hcut : List.drop p (List.take (p + (h' ++ encF k').length) S) = h' ++ encF k' := by
      rw [List.drop_take, hd, Nat.add_sub_cancel_left, List.take_left]
    have hcl := ownsRow_one hown
    have hcnt : cntF k ≤ 32 := hk32
    simp (config := { maxSteps := 1000000 }) (disch := first | omega | (simp only [sizeAlloc, sizeDrew, sizeSet, sizePut] <;> omega) | fail) only [GS1, GS2, GS3, GS4, GS5, GS6, GS7, GS8, GS9, GS10, GS11, TT_eq, TTl, Nat.reduceAdd, Nat.reduceMul, Nat.reduceSub, Nat.reduceDiv, Nat.reduceMod, Nat.reducePow, Nat.reduceEqDiff, ↓reduceIte, reduceCtorEq, true_and, and_true, and_self, false_and, and_false, Int.reduceToNat, Int.reduceAdd, Int.reduceSub, Int.reduceMul, cond_true, cond_false, List.toList_toArray, Option.map_some, Option.map_none, Option.some.injEq, List.cons_append, List.nil_append, List.length_cons, List.length_nil, List.getD_cons_zero, List.getD_cons_succ]
    refine ⟨fok92, rRead_cps S hS 16 1 p _ _ (by omega) hp fun w3 hM3 => .inl ⟨_, rfl, hold_ops okT (rs := [.tmp 2]) rfl ?_⟩⟩
    have hown3 := ownsRow_mod hown hM3 (by simp)
    have hM03 := hM2.trans hM3 (by simp)
    unfold rdV
    rw [q2, if_pos rfl, q1, Nat.add_sub_cancel_left]
    have hL : (h' ++ encF k').length ≤ S.length - p := by rw [List.length_append]; omega
    have hdr : List.drop (p + (h' ++ encF k').length) S = encF r := by rw [← List.drop_drop, hd, List.drop_left]
    generalize h' ++ encF k' = s at *
    have e5 : (p : Int) + (s.length : Nat) = ((p + s.length : Nat) : Int) := by omega
    have hb0 := hM03.size
    simp (config := { maxSteps := 1000000 }) (disch := first | omega | (simp only [sizeAlloc, sizeDrew, sizeSet, sizePut] <;> omega) | fail) only [GS1, GS2, GS3, GS4, GS5, GS6, GS7, GS8, GS9, GS10, GS11, TT_eq, TTl, Nat.reduceAdd, Nat.reduceMul, Nat.reduceSub, Nat.reduceDiv, Nat.reduceMod, Nat.reducePow, Nat.reduceEqDiff, ↓reduceIte, reduceCtorEq, true_and, and_true, and_self, false_and, and_false, Int.reduceToNat, Int.reduceAdd, Int.reduceSub, Int.reduceMul, cond_true, cond_false, List.toList_toArray, Option.map_some, Option.map_none, Option.some.injEq, List.cons_append, List.nil_append, List.length_cons, List.length_nil, List.getD_cons_zero, List.getD_cons_succ, e5, hcut]
    refine hold_append1 okT rfl rfl rfl rfl rfl w.heap.size hown3 rfl rfl (u := .string ⟨s.toArray⟩) rfl (by simp only; omega) (by unfold maxLen; omega) hb0 fun v' w4 hown4 hM4 _ => hold_ops okT (rs := [.tmp 2]) rfl ?_
    simp (config := { maxSteps := 1000000 }) (disch := first | omega | (simp only [sizeAlloc, sizeDrew, sizeSet, sizePut] <;> omega) | fail) only [GS1, GS2, GS3, GS4, GS5, GS6, GS7, GS8, GS9, GS10, GS11, TT_eq, TTl, Nat.reduceAdd, Nat.reduceMul, Nat.reduceSub, Nat.reduceDiv, Nat.reduceMod, Nat.reducePow, Nat.reduceEqDiff, ↓reduceIte, reduceCtorEq, true_and, and_true, and_self, false_and, and_false, Int.reduceToNat, Int.reduceAdd, Int.reduceSub, Int.reduceMul, cond_true, cond_false, List.toList_toArray, Option.map_some, Option.map_none, Option.some.injEq, List.cons_append, List.nil_append, List.length_cons, List.length_nil, List.getD_cons_zero, List.getD_cons_succ, e5]
    refine ⟨⟨j + 1, p + s.length, r, l ++ [s], v', rfl, by omega, by rw [List.length_append]; simp; omega, o3, by omega, hdr, by omega, by rw [List.append_assoc]; exact hro, ?_, hM03.trans hM4 (fun y hy => .inr (hown3.lt y (by simpa using hy)).1)⟩, by omega⟩
    rw [List.length_append, List.map_append]
    exact hown4
theorem rParts_cps (S : List UInt8) (hS : checkS S = 0) (w : World) (R : Ending → World → Prop) (hR : ∀ sv w', w'.ownsRow w.heap.size 9 1 sv (partsS S).length ((partsS S).map strV) → Mod [] w w' → R (.returned (.tuple #[sv, .bool true])) w') :
    Calls Try.prog 49 #[.string ⟨S.toArray⟩] w R := by
  obtain ⟨h, k, t⟩ := tr_of hS
  have hSl := t.2.2.2.2
  rw [t.parts] at hR
  refine calls_go 4000 okT Try.func49 rfl (rs := [.tmp 2, .tmp 3]) rfl Try.ntmps49 (args := [.string ⟨S.toArray⟩]) ?_
  simp (config := { maxSteps := 1000000 }) (disch := first | omega | (simp only [sizeAlloc, sizeDrew, sizeSet, sizePut] <;> omega) | fail) only [GS1, GS2, GS3, GS4, GS5, GS6, GS7, GS8, GS9, GS10, GS11, TT_eq, TTl, Nat.reduceAdd, Nat.reduceMul, Nat.reduceSub, Nat.reduceDiv, Nat.reduceMod, Nat.reducePow, Nat.reduceEqDiff, ↓reduceIte, reduceCtorEq, true_and, and_true, and_self, false_and, and_false, Int.reduceToNat, Int.reduceAdd, Int.reduceSub, Int.reduceMul, cond_true, cond_false, List.toList_toArray, Option.map_some, Option.map_none, Option.some.injEq, List.cons_append, List.nil_append, List.length_cons, List.length_nil, List.getD_cons_zero, List.getD_cons_succ]
  refine ⟨fok63, rMay_cps S (by unfold maxLen; omega) _ _ fun w1 hM1 => .inl ⟨_, rfl, hold_ops okT (rs := [.tmp 2, .tmp 3]) rfl ?_⟩⟩
  rw [decide_eq_true hS]
  simp (config := { maxSteps := 1000000 }) (disch := first | omega | (simp only [sizeAlloc, sizeDrew, sizeSet, sizePut] <;> omega) | fail) only [GS1, GS2, GS3, GS4, GS5, GS6, GS7, GS8, GS9, GS10, GS11, TT_eq, TTl, Nat.reduceAdd, Nat.reduceMul, Nat.reduceSub, Nat.reduceDiv, Nat.reduceMod, Nat.reducePow, Nat.reduceEqDiff, ↓reduceIte, reduceCtorEq, true_and, and_true, and_self, false_and, and_false, Int.reduceToNat, Int.reduceAdd, Int.reduceSub, Int.reduceMul, cond_true, cond_false, List.toList_toArray, Option.map_some, Option.map_none, Option.some.injEq, List.cons_append, List.nil_append, List.length_cons, List.length_nil, List.getD_cons_zero, List.getD_cons_succ]
  refine ⟨fok67, rparts_cps t _ _ fun sv w2 hown hM2 => .inl ⟨_, rfl, hold_ops okT (rs := [.tmp 2, .tmp 3]) rfl ?_⟩⟩
  simp (config := { maxSteps := 1000000 }) (disch := first | omega | (simp only [sizeAlloc, sizeDrew, sizeSet, sizePut] <;> omega) | fail) only [GS1, GS2, GS3, GS4, GS5, GS6, GS7, GS8, GS9, GS10, GS11, TT_eq, TTl, Nat.reduceAdd, Nat.reduceMul, Nat.reduceSub, Nat.reduceDiv, Nat.reduceMod, Nat.reducePow, Nat.reduceEqDiff, ↓reduceIte, reduceCtorEq, true_and, and_true, and_self, false_and, and_false, Int.reduceToNat, Int.reduceAdd, Int.reduceSub, Int.reduceMul, cond_true, cond_false, List.toList_toArray, Option.map_some, Option.map_none, Option.some.injEq, List.cons_append, List.nil_append, List.length_cons, List.length_nil, List.getD_cons_zero, List.getD_cons_succ]
  exact hR _ _ (ownsRow_base hown hM1.size) (hM1.trans hM2 (by simp))
set_option maxHeartbeats 2000000 in
theorem rKind_cps (S : List UInt8) (hS : checkS S = 0) (w : World) (R : Ending → World → Prop) (hR : ∀ w', Mod [] w w' → R (.returned (.int .u8 (kindS S))) w') :
    Calls Try.prog 48 #[.string ⟨S.toArray⟩] w R := by
  obtain ⟨h, k, t⟩ := tr_of hS
  have hSl := t.2.2.2.2
  refine calls_go 4000 okT Try.func48 rfl (rs := [.tmp 2]) rfl Try.ntmps48 (args := [.string ⟨S.toArray⟩]) ?_
  simp (config := { maxSteps := 1000000 }) (disch := first | omega | (simp only [sizeAlloc, sizeDrew, sizeSet, sizePut] <;> omega) | fail) only [GS1, GS2, GS3, GS4, GS5, GS6, GS7, GS8, GS9, GS10, GS11, TT_eq, TTl, Nat.reduceAdd, Nat.reduceMul, Nat.reduceSub, Nat.reduceDiv, Nat.reduceMod, Nat.reducePow, Nat.reduceEqDiff, ↓reduceIte, reduceCtorEq, true_and, and_true, and_self, false_and, and_false, Int.reduceToNat, Int.reduceAdd, Int.reduceSub, Int.reduceMul, cond_true, cond_false, List.toList_toArray, Option.map_some, Option.map_none, Option.some.injEq, List.cons_append, List.nil_append, List.length_cons, List.length_nil, List.getD_cons_zero, List.getD_cons_succ]
  refine ⟨fok63, rMay_cps S (by unfold maxLen; omega) _ _ fun w1 hM1 => .inl ⟨_, rfl, hold_ops okT (rs := [.tmp 2]) rfl ?_⟩⟩
  rw [decide_eq_true hS]
  have hR := hR _ hM1
  unfold kindS at hR
  rw [if_pos hS] at hR
  have e := t.1
  have hd := t.2.1
  cases S with
  | nil => exact absurd hS checkS_nil
  | cons c r =>
    have hc : c = 100 ∨ c = 97 ∨ c = 114 ∨ c = 104 ∨ c = 109 ∨ c = 115 := by
      rcases hd with ⟨_, x, _, g⟩ | ⟨_, x, _, _, g⟩ | ⟨_, g⟩ | ⟨_, g⟩ | ⟨_, g⟩ | ⟨_, g⟩ <;> (rw [g] at e; simp only [List.cons_append, List.cons.injEq] at e; simp [e.1])
    clear e hd t
    rcases hc with h | h | h | h | h | h
    · have hn : c.toNat = 100 := by rw [h]; rfl
      simp (config := { maxSteps := 1000000 }) (disch := first | omega | (simp only [sizeAlloc, sizeDrew, sizeSet, sizePut] <;> omega) | fail) only [GS1, GS2, GS3, GS4, GS5, GS6, GS7, GS8, GS9, GS10, GS11, TT_eq, TTl, Nat.reduceAdd, Nat.reduceMul, Nat.reduceSub, Nat.reduceDiv, Nat.reduceMod, Nat.reducePow, Nat.reduceEqDiff, ↓reduceIte, reduceCtorEq, true_and, and_true, and_self, false_and, and_false, Int.reduceToNat, Int.reduceAdd, Int.reduceSub, Int.reduceMul, cond_true, cond_false, List.toList_toArray, Option.map_some, Option.map_none, Option.some.injEq, List.cons_append, List.nil_append, List.length_cons, List.length_nil, List.getD_cons_zero, List.getD_cons_succ]
      rw [h] at hR
      exact hR
    · have hn : c.toNat = 97 := by rw [h]; rfl
      simp (config := { maxSteps := 1000000 }) (disch := first | omega | (simp only [sizeAlloc, sizeDrew, sizeSet, sizePut] <;> omega) | fail) only [GS1, GS2, GS3, GS4, GS5, GS6, GS7, GS8, GS9, GS10, GS11, TT_eq, TTl, Nat.reduceAdd, Nat.reduceMul, Nat.reduceSub, Nat.reduceDiv, Nat.reduceMod, Nat.reducePow, Nat.reduceEqDiff, ↓reduceIte, reduceCtorEq, true_and, and_true, and_self, false_and, and_false, Int.reduceToNat, Int.reduceAdd, Int.reduceSub, Int.reduceMul, cond_true, cond_false, List.toList_toArray, Option.map_some, Option.map_none, Option.some.injEq, List.cons_append, List.nil_append, List.length_cons, List.length_nil, List.getD_cons_zero, List.getD_cons_succ]
      rw [h] at hR
      exact hR
    · have hn : c.toNat = 114 := by rw [h]; rfl
      simp (config := { maxSteps := 1000000 }) (disch := first | omega | (simp only [sizeAlloc, sizeDrew, sizeSet, sizePut] <;> omega) | fail) only [GS1, GS2, GS3, GS4, GS5, GS6, GS7, GS8, GS9, GS10, GS11, TT_eq, TTl, Nat.reduceAdd, Nat.reduceMul, Nat.reduceSub, Nat.reduceDiv, Nat.reduceMod, Nat.reducePow, Nat.reduceEqDiff, ↓reduceIte, reduceCtorEq, true_and, and_true, and_self, false_and, and_false, Int.reduceToNat, Int.reduceAdd, Int.reduceSub, Int.reduceMul, cond_true, cond_false, List.toList_toArray, Option.map_some, Option.map_none, Option.some.injEq, List.cons_append, List.nil_append, List.length_cons, List.length_nil, List.getD_cons_zero, List.getD_cons_succ]
      rw [h] at hR
      exact hR
    · have hn : c.toNat = 104 := by rw [h]; rfl
      simp (config := { maxSteps := 1000000 }) (disch := first | omega | (simp only [sizeAlloc, sizeDrew, sizeSet, sizePut] <;> omega) | fail) only [GS1, GS2, GS3, GS4, GS5, GS6, GS7, GS8, GS9, GS10, GS11, TT_eq, TTl, Nat.reduceAdd, Nat.reduceMul, Nat.reduceSub, Nat.reduceDiv, Nat.reduceMod, Nat.reducePow, Nat.reduceEqDiff, ↓reduceIte, reduceCtorEq, true_and, and_true, and_self, false_and, and_false, Int.reduceToNat, Int.reduceAdd, Int.reduceSub, Int.reduceMul, cond_true, cond_false, List.toList_toArray, Option.map_some, Option.map_none, Option.some.injEq, List.cons_append, List.nil_append, List.length_cons, List.length_nil, List.getD_cons_zero, List.getD_cons_succ]
      rw [h] at hR
      exact hR
    · have hn : c.toNat = 109 := by rw [h]; rfl
      simp (config := { maxSteps := 1000000 }) (disch := first | omega | (simp only [sizeAlloc, sizeDrew, sizeSet, sizePut] <;> omega) | fail) only [GS1, GS2, GS3, GS4, GS5, GS6, GS7, GS8, GS9, GS10, GS11, TT_eq, TTl, Nat.reduceAdd, Nat.reduceMul, Nat.reduceSub, Nat.reduceDiv, Nat.reduceMod, Nat.reducePow, Nat.reduceEqDiff, ↓reduceIte, reduceCtorEq, true_and, and_true, and_self, false_and, and_false, Int.reduceToNat, Int.reduceAdd, Int.reduceSub, Int.reduceMul, cond_true, cond_false, List.toList_toArray, Option.map_some, Option.map_none, Option.some.injEq, List.cons_append, List.nil_append, List.length_cons, List.length_nil, List.getD_cons_zero, List.getD_cons_succ]
      rw [h] at hR
      exact hR
    · have hn : c.toNat = 115 := by rw [h]; rfl
      simp (config := { maxSteps := 1000000 }) (disch := first | omega | (simp only [sizeAlloc, sizeDrew, sizeSet, sizePut] <;> omega) | fail) only [GS1, GS2, GS3, GS4, GS5, GS6, GS7, GS8, GS9, GS10, GS11, TT_eq, TTl, Nat.reduceAdd, Nat.reduceMul, Nat.reduceSub, Nat.reduceDiv, Nat.reduceMod, Nat.reducePow, Nat.reduceEqDiff, ↓reduceIte, reduceCtorEq, true_and, and_true, and_self, false_and, and_false, Int.reduceToNat, Int.reduceAdd, Int.reduceSub, Int.reduceMul, cond_true, cond_false, List.toList_toArray, Option.map_some, Option.map_none, Option.some.injEq, List.cons_append, List.nil_append, List.length_cons, List.length_nil, List.getD_cons_zero, List.getD_cons_succ]
      rw [h] at hR
      exact hR
def nameR (b : Bool) (v : Int) (n : Nat) : Bool := if b = true then decide (0 ≤ v ∧ v < n) else decide (v = 0)
set_option maxHeartbeats 2000000 in
theorem rNamed_cps (b : Bool) (v : Int) (n : Nat) (w : World) (R : Ending → World → Prop) (hR : R (.returned (.bool (nameR b v n))) w) :
    Calls Try.prog 41 #[.bool b, .int .i64 v, .int .i64 n] w R := by
  unfold nameR at hR
  refine calls_go 4000 okT Try.func41 rfl (rs := [.tmp 6]) rfl Try.ntmps41 (args := [.bool b, .int .i64 v, .int .i64 n]) ?_
  cases b
  · rw [if_neg (by simp)] at hR
    by_cases h : v = 0
    · rw [decide_eq_true h] at hR
      subst h
      simp (config := { maxSteps := 1000000 }) (disch := first | omega | (simp only [sizeAlloc, sizeDrew, sizeSet, sizePut] <;> omega) | fail) only [GS1, GS2, GS3, GS4, GS5, GS6, GS7, GS8, GS9, GS10, GS11, TT_eq, TTl, Nat.reduceAdd, Nat.reduceMul, Nat.reduceSub, Nat.reduceDiv, Nat.reduceMod, Nat.reducePow, Nat.reduceEqDiff, ↓reduceIte, reduceCtorEq, true_and, and_true, and_self, false_and, and_false, Int.reduceToNat, Int.reduceAdd, Int.reduceSub, Int.reduceMul, cond_true, cond_false, List.toList_toArray, Option.map_some, Option.map_none, Option.some.injEq, List.cons_append, List.nil_append, List.length_cons, List.length_nil, List.getD_cons_zero, List.getD_cons_succ]
      exact hR
    · rw [decide_eq_false h] at hR
      simp (config := { maxSteps := 1000000 }) (disch := first | omega | (simp only [sizeAlloc, sizeDrew, sizeSet, sizePut] <;> omega) | fail) only [GS1, GS2, GS3, GS4, GS5, GS6, GS7, GS8, GS9, GS10, GS11, TT_eq, TTl, Nat.reduceAdd, Nat.reduceMul, Nat.reduceSub, Nat.reduceDiv, Nat.reduceMod, Nat.reducePow, Nat.reduceEqDiff, ↓reduceIte, reduceCtorEq, true_and, and_true, and_self, false_and, and_false, Int.reduceToNat, Int.reduceAdd, Int.reduceSub, Int.reduceMul, cond_true, cond_false, List.toList_toArray, Option.map_some, Option.map_none, Option.some.injEq, List.cons_append, List.nil_append, List.length_cons, List.length_nil, List.getD_cons_zero, List.getD_cons_succ, h]
      exact hR
  · rw [if_pos rfl] at hR
    by_cases h : 0 ≤ v
    · by_cases h2 : v < n
      · rw [decide_eq_true ⟨h, h2⟩] at hR
        simp (config := { maxSteps := 1000000 }) (disch := first | omega | (simp only [sizeAlloc, sizeDrew, sizeSet, sizePut] <;> omega) | fail) only [GS1, GS2, GS3, GS4, GS5, GS6, GS7, GS8, GS9, GS10, GS11, TT_eq, TTl, Nat.reduceAdd, Nat.reduceMul, Nat.reduceSub, Nat.reduceDiv, Nat.reduceMod, Nat.reducePow, Nat.reduceEqDiff, ↓reduceIte, reduceCtorEq, true_and, and_true, and_self, false_and, and_false, Int.reduceToNat, Int.reduceAdd, Int.reduceSub, Int.reduceMul, cond_true, cond_false, List.toList_toArray, Option.map_some, Option.map_none, Option.some.injEq, List.cons_append, List.nil_append, List.length_cons, List.length_nil, List.getD_cons_zero, List.getD_cons_succ]
        exact hR
      · rw [decide_eq_false (by omega)] at hR
        simp (config := { maxSteps := 1000000 }) (disch := first | omega | (simp only [sizeAlloc, sizeDrew, sizeSet, sizePut] <;> omega) | fail) only [GS1, GS2, GS3, GS4, GS5, GS6, GS7, GS8, GS9, GS10, GS11, TT_eq, TTl, Nat.reduceAdd, Nat.reduceMul, Nat.reduceSub, Nat.reduceDiv, Nat.reduceMod, Nat.reducePow, Nat.reduceEqDiff, ↓reduceIte, reduceCtorEq, true_and, and_true, and_self, false_and, and_false, Int.reduceToNat, Int.reduceAdd, Int.reduceSub, Int.reduceMul, cond_true, cond_false, List.toList_toArray, Option.map_some, Option.map_none, Option.some.injEq, List.cons_append, List.nil_append, List.length_cons, List.length_nil, List.getD_cons_zero, List.getD_cons_succ]
        exact hR
    · rw [decide_eq_false (by omega)] at hR
      simp (config := { maxSteps := 1000000 }) (disch := first | omega | (simp only [sizeAlloc, sizeDrew, sizeSet, sizePut] <;> omega) | fail) only [GS1, GS2, GS3, GS4, GS5, GS6, GS7, GS8, GS9, GS10, GS11, TT_eq, TTl, Nat.reduceAdd, Nat.reduceMul, Nat.reduceSub, Nat.reduceDiv, Nat.reduceMod, Nat.reducePow, Nat.reduceEqDiff, ↓reduceIte, reduceCtorEq, true_and, and_true, and_self, false_and, and_false, Int.reduceToNat, Int.reduceAdd, Int.reduceSub, Int.reduceMul, cond_true, cond_false, List.toList_toArray, Option.map_some, Option.map_none, Option.some.injEq, List.cons_append, List.nil_append, List.length_cons, List.length_nil, List.getD_cons_zero, List.getD_cons_succ]
      exact hR
def nmsV (d : Nat) : Value :=
  match namesS d with
  | some (s, bn, bt, bl) => .tuple #[.bool (decide (0 < s)), .bool (decide (1 < s)), .bool (decide (2 < s)), .bool bn, .bool bt, .bool bl, .bool true]
  | none => .tuple #[.bool false, .bool false, .bool false, .bool false, .bool false, .bool false, .bool false]
theorem names_ten {d : Nat} (h1 : d ≠ 1) (h2 : d ≠ 2) (h3 : d ≠ 3) (h4 : d ≠ 4) (h5 : d ≠ 5) (h6 : d ≠ 6) (h7 : d ≠ 7) (h8 : d ≠ 8) (h9 : d ≠ 9) : namesS d = none := by
  unfold namesS
  split <;> first | rfl | exact absurd rfl ‹_›
set_option maxHeartbeats 2000000 in
theorem rNames_cps (d : Nat) (hd : d < 256) (w : World) (R : Ending → World → Prop) (hR : R (.returned (nmsV d)) w) : Calls Try.prog 40 #[.int .u8 d] w R := by
  unfold nmsV at hR
  refine calls_go 4000 okT Try.func40 rfl (rs := [.tmp 2, .tmp 3, .tmp 4, .tmp 5, .tmp 6, .tmp 7, .tmp 8]) rfl Try.ntmps40 (args := [.int .u8 d]) ?_
  by_cases h1 : d = 1
  · subst h1; simp (config := { maxSteps := 1000000 }) (disch := first | omega | (simp only [sizeAlloc, sizeDrew, sizeSet, sizePut] <;> omega) | fail) only [GS1, GS2, GS3, GS4, GS5, GS6, GS7, GS8, GS9, GS10, GS11, TT_eq, TTl, Nat.reduceAdd, Nat.reduceMul, Nat.reduceSub, Nat.reduceDiv, Nat.reduceMod, Nat.reducePow, Nat.reduceEqDiff, ↓reduceIte, reduceCtorEq, true_and, and_true, and_self, false_and, and_false, Int.reduceToNat, Int.reduceAdd, Int.reduceSub, Int.reduceMul, cond_true, cond_false, List.toList_toArray, Option.map_some, Option.map_none, Option.some.injEq, List.cons_append, List.nil_append, List.length_cons, List.length_nil, List.getD_cons_zero, List.getD_cons_succ]; exact hR
  by_cases h2 : d = 2
  · subst h2; simp (config := { maxSteps := 1000000 }) (disch := first | omega | (simp only [sizeAlloc, sizeDrew, sizeSet, sizePut] <;> omega) | fail) only [GS1, GS2, GS3, GS4, GS5, GS6, GS7, GS8, GS9, GS10, GS11, TT_eq, TTl, Nat.reduceAdd, Nat.reduceMul, Nat.reduceSub, Nat.reduceDiv, Nat.reduceMod, Nat.reducePow, Nat.reduceEqDiff, ↓reduceIte, reduceCtorEq, true_and, and_true, and_self, false_and, and_false, Int.reduceToNat, Int.reduceAdd, Int.reduceSub, Int.reduceMul, cond_true, cond_false, List.toList_toArray, Option.map_some, Option.map_none, Option.some.injEq, List.cons_append, List.nil_append, List.length_cons, List.length_nil, List.getD_cons_zero, List.getD_cons_succ]; exact hR
  by_cases h3 : d = 3
  · subst h3; simp (config := { maxSteps := 1000000 }) (disch := first | omega | (simp only [sizeAlloc, sizeDrew, sizeSet, sizePut] <;> omega) | fail) only [GS1, GS2, GS3, GS4, GS5, GS6, GS7, GS8, GS9, GS10, GS11, TT_eq, TTl, Nat.reduceAdd, Nat.reduceMul, Nat.reduceSub, Nat.reduceDiv, Nat.reduceMod, Nat.reducePow, Nat.reduceEqDiff, ↓reduceIte, reduceCtorEq, true_and, and_true, and_self, false_and, and_false, Int.reduceToNat, Int.reduceAdd, Int.reduceSub, Int.reduceMul, cond_true, cond_false, List.toList_toArray, Option.map_some, Option.map_none, Option.some.injEq, List.cons_append, List.nil_append, List.length_cons, List.length_nil, List.getD_cons_zero, List.getD_cons_succ]; exact hR
  by_cases h4 : d = 4
  · subst h4; simp (config := { maxSteps := 1000000 }) (disch := first | omega | (simp only [sizeAlloc, sizeDrew, sizeSet, sizePut] <;> omega) | fail) only [GS1, GS2, GS3, GS4, GS5, GS6, GS7, GS8, GS9, GS10, GS11, TT_eq, TTl, Nat.reduceAdd, Nat.reduceMul, Nat.reduceSub, Nat.reduceDiv, Nat.reduceMod, Nat.reducePow, Nat.reduceEqDiff, ↓reduceIte, reduceCtorEq, true_and, and_true, and_self, false_and, and_false, Int.reduceToNat, Int.reduceAdd, Int.reduceSub, Int.reduceMul, cond_true, cond_false, List.toList_toArray, Option.map_some, Option.map_none, Option.some.injEq, List.cons_append, List.nil_append, List.length_cons, List.length_nil, List.getD_cons_zero, List.getD_cons_succ]; exact hR
  by_cases h5 : d = 5
  · subst h5; simp (config := { maxSteps := 1000000 }) (disch := first | omega | (simp only [sizeAlloc, sizeDrew, sizeSet, sizePut] <;> omega) | fail) only [GS1, GS2, GS3, GS4, GS5, GS6, GS7, GS8, GS9, GS10, GS11, TT_eq, TTl, Nat.reduceAdd, Nat.reduceMul, Nat.reduceSub, Nat.reduceDiv, Nat.reduceMod, Nat.reducePow, Nat.reduceEqDiff, ↓reduceIte, reduceCtorEq, true_and, and_true, and_self, false_and, and_false, Int.reduceToNat, Int.reduceAdd, Int.reduceSub, Int.reduceMul, cond_true, cond_false, List.toList_toArray, Option.map_some, Option.map_none, Option.some.injEq, List.cons_append, List.nil_append, List.length_cons, List.length_nil, List.getD_cons_zero, List.getD_cons_succ]; exact hR
  by_cases h6 : d = 6
  · subst h6; simp (config := { maxSteps := 1000000 }) (disch := first | omega | (simp only [sizeAlloc, sizeDrew, sizeSet, sizePut] <;> omega) | fail) only [GS1, GS2, GS3, GS4, GS5, GS6, GS7, GS8, GS9, GS10, GS11, TT_eq, TTl, Nat.reduceAdd, Nat.reduceMul, Nat.reduceSub, Nat.reduceDiv, Nat.reduceMod, Nat.reducePow, Nat.reduceEqDiff, ↓reduceIte, reduceCtorEq, true_and, and_true, and_self, false_and, and_false, Int.reduceToNat, Int.reduceAdd, Int.reduceSub, Int.reduceMul, cond_true, cond_false, List.toList_toArray, Option.map_some, Option.map_none, Option.some.injEq, List.cons_append, List.nil_append, List.length_cons, List.length_nil, List.getD_cons_zero, List.getD_cons_succ]; exact hR
  by_cases h7 : d = 7
  · subst h7; simp (config := { maxSteps := 1000000 }) (disch := first | omega | (simp only [sizeAlloc, sizeDrew, sizeSet, sizePut] <;> omega) | fail) only [GS1, GS2, GS3, GS4, GS5, GS6, GS7, GS8, GS9, GS10, GS11, TT_eq, TTl, Nat.reduceAdd, Nat.reduceMul, Nat.reduceSub, Nat.reduceDiv, Nat.reduceMod, Nat.reducePow, Nat.reduceEqDiff, ↓reduceIte, reduceCtorEq, true_and, and_true, and_self, false_and, and_false, Int.reduceToNat, Int.reduceAdd, Int.reduceSub, Int.reduceMul, cond_true, cond_false, List.toList_toArray, Option.map_some, Option.map_none, Option.some.injEq, List.cons_append, List.nil_append, List.length_cons, List.length_nil, List.getD_cons_zero, List.getD_cons_succ]; exact hR
  by_cases h8 : d = 8
  · subst h8; simp (config := { maxSteps := 1000000 }) (disch := first | omega | (simp only [sizeAlloc, sizeDrew, sizeSet, sizePut] <;> omega) | fail) only [GS1, GS2, GS3, GS4, GS5, GS6, GS7, GS8, GS9, GS10, GS11, TT_eq, TTl, Nat.reduceAdd, Nat.reduceMul, Nat.reduceSub, Nat.reduceDiv, Nat.reduceMod, Nat.reducePow, Nat.reduceEqDiff, ↓reduceIte, reduceCtorEq, true_and, and_true, and_self, false_and, and_false, Int.reduceToNat, Int.reduceAdd, Int.reduceSub, Int.reduceMul, cond_true, cond_false, List.toList_toArray, Option.map_some, Option.map_none, Option.some.injEq, List.cons_append, List.nil_append, List.length_cons, List.length_nil, List.getD_cons_zero, List.getD_cons_succ]; exact hR
  by_cases h9 : d = 9
  · subst h9; simp (config := { maxSteps := 1000000 }) (disch := first | omega | (simp only [sizeAlloc, sizeDrew, sizeSet, sizePut] <;> omega) | fail) only [GS1, GS2, GS3, GS4, GS5, GS6, GS7, GS8, GS9, GS10, GS11, TT_eq, TTl, Nat.reduceAdd, Nat.reduceMul, Nat.reduceSub, Nat.reduceDiv, Nat.reduceMod, Nat.reducePow, Nat.reduceEqDiff, ↓reduceIte, reduceCtorEq, true_and, and_true, and_self, false_and, and_false, Int.reduceToNat, Int.reduceAdd, Int.reduceSub, Int.reduceMul, cond_true, cond_false, List.toList_toArray, Option.map_some, Option.map_none, Option.some.injEq, List.cons_append, List.nil_append, List.length_cons, List.length_nil, List.getD_cons_zero, List.getD_cons_succ]; exact hR
  rw [names_ten h1 h2 h3 h4 h5 h6 h7 h8 h9] at hR
  simp (config := { maxSteps := 1000000 }) (disch := first | omega | (simp only [sizeAlloc, sizeDrew, sizeSet, sizePut] <;> omega) | fail) only [GS1, GS2, GS3, GS4, GS5, GS6, GS7, GS8, GS9, GS10, GS11, TT_eq, TTl, Nat.reduceAdd, Nat.reduceMul, Nat.reduceSub, Nat.reduceDiv, Nat.reduceMod, Nat.reducePow, Nat.reduceEqDiff, ↓reduceIte, reduceCtorEq, true_and, and_true, and_self, false_and, and_false, Int.reduceToNat, Int.reduceAdd, Int.reduceSub, Int.reduceMul, cond_true, cond_false, List.toList_toArray, Option.map_some, Option.map_none, Option.some.injEq, List.cons_append, List.nil_append, List.length_cons, List.length_nil, List.getD_cons_zero, List.getD_cons_succ]
  exact hR
theorem okI_name (i s : Nat) (v : Int) (n : Nat) : okI i s v n = nameR (decide (i < s)) v n := by
  unfold okI nameR
  by_cases h : i < s
  · rw [if_pos (by simpa using h)]
    apply decide_eq_decide.2
    omega
  · rw [if_neg (by simpa using h)]
    apply decide_eq_decide.2
    omega
theorem cellMod {w w' : World} {a : Addr} {v : Value} (hm : Mod [] w w') (h : w.cell? a = some v) : w'.cell? a = some v := by
  rw [World.cell?_of_block (w := w) (hm.block a.block (World.block_lt_of_cell? w _ h) (by simp))]
  exact h
set_option maxHeartbeats 2000000 in
theorem rSeen_cps (sv : Value) (seen : List (List UInt8)) (x : Stp) (w : World) (R : Ending → World → Prop) (rs : Rd w 1 sv seen.length (seen.map strV)) (hs : ∀ s ∈ seen, s.length ≤ maxLen) (ls : seen.length ≤ 9223372036854775807) (hn : -9223372036854775808 ≤ x.n ∧ x.n ≤ 9223372036854775807)
    (hR : ∀ w', Mod [] w w' → R (.returned (stV (lookD seen x))) w') : Calls Try.prog 42 #[sv, .int .i64 x.n] w R := by
  obtain ⟨sa, sc, rfl⟩ := rs.slice
  unfold lookD at hR
  refine calls_go 4000 okT Try.func42 rfl (rs := [.tmp 4, .tmp 5]) rfl Try.ntmps42 (args := [.slice sa seen.length sc, .int .i64 x.n]) ?_
  by_cases h1 : 0 ≤ x.n ∧ x.n < seen.length
  · rw [if_pos h1] at hR
    obtain ⟨b1, o1, c1, e1, f1⟩ := rdAt rfl rs h1.1 h1.2
    rw [Value.slice.injEq] at e1
    obtain ⟨rfl, -, -⟩ := e1
    have hml := hs _ (atL_mem h1.1 h1.2)
    generalize atL seen x.n = s at *
    obtain ⟨h2, h3⟩ := h1
    simp (config := { maxSteps := 1000000 }) (disch := first | omega | (simp only [sizeAlloc, sizeDrew, sizeSet, sizePut] <;> omega) | fail) only [GS1, GS2, GS3, GS4, GS5, GS6, GS7, GS8, GS9, GS10, GS11, TT_eq, TTl, Nat.reduceAdd, Nat.reduceMul, Nat.reduceSub, Nat.reduceDiv, Nat.reduceMod, Nat.reducePow, Nat.reduceEqDiff, ↓reduceIte, reduceCtorEq, true_and, and_true, and_self, false_and, and_false, Int.reduceToNat, Int.reduceAdd, Int.reduceSub, Int.reduceMul, cond_true, cond_false, List.toList_toArray, Option.map_some, Option.map_none, Option.some.injEq, List.cons_append, List.nil_append, List.length_cons, List.length_nil, List.getD_cons_zero, List.getD_cons_succ, f1]
    refine ⟨fok63, rMay_cps s hml _ _ fun w1 hM1 => .inl ⟨_, rfl, hold_ops okT (rs := [.tmp 4, .tmp 5]) rfl ?_⟩⟩
    have f1 := cellMod hM1 f1
    by_cases hc : checkS s = 0
    · rw [decide_eq_true hc]
      rw [if_pos hc] at hR
      simp (config := { maxSteps := 1000000 }) (disch := first | omega | (simp only [sizeAlloc, sizeDrew, sizeSet, sizePut] <;> omega) | fail) only [GS1, GS2, GS3, GS4, GS5, GS6, GS7, GS8, GS9, GS10, GS11, TT_eq, TTl, Nat.reduceAdd, Nat.reduceMul, Nat.reduceSub, Nat.reduceDiv, Nat.reduceMod, Nat.reducePow, Nat.reduceEqDiff, ↓reduceIte, reduceCtorEq, true_and, and_true, and_self, false_and, and_false, Int.reduceToNat, Int.reduceAdd, Int.reduceSub, Int.reduceMul, cond_true, cond_false, List.toList_toArray, Option.map_some, Option.map_none, Option.some.injEq, List.cons_append, List.nil_append, List.length_cons, List.length_nil, List.getD_cons_zero, List.getD_cons_succ, f1]
      exact hR _ hM1
    · rw [decide_eq_false hc]
      rw [if_neg hc] at hR
      simp (config := { maxSteps := 1000000 }) (disch := first | omega | (simp only [sizeAlloc, sizeDrew, sizeSet, sizePut] <;> omega) | fail) only [GS1, GS2, GS3, GS4, GS5, GS6, GS7, GS8, GS9, GS10, GS11, TT_eq, TTl, Nat.reduceAdd, Nat.reduceMul, Nat.reduceSub, Nat.reduceDiv, Nat.reduceMod, Nat.reducePow, Nat.reduceEqDiff, ↓reduceIte, reduceCtorEq, true_and, and_true, and_self, false_and, and_false, Int.reduceToNat, Int.reduceAdd, Int.reduceSub, Int.reduceMul, cond_true, cond_false, List.toList_toArray, Option.map_some, Option.map_none, Option.some.injEq, List.cons_append, List.nil_append, List.length_cons, List.length_nil, List.getD_cons_zero, List.getD_cons_succ]
      exact hR _ hM1
  · rw [if_neg h1] at hR
    have h2 : x.n < 0 ∨ (0 ≤ x.n ∧ seen.length ≤ x.n) := by omega
    rcases h2 with h2 | ⟨h2, h3⟩
    · simp (config := { maxSteps := 1000000 }) (disch := first | omega | (simp only [sizeAlloc, sizeDrew, sizeSet, sizePut] <;> omega) | fail) only [GS1, GS2, GS3, GS4, GS5, GS6, GS7, GS8, GS9, GS10, GS11, TT_eq, TTl, Nat.reduceAdd, Nat.reduceMul, Nat.reduceSub, Nat.reduceDiv, Nat.reduceMod, Nat.reducePow, Nat.reduceEqDiff, ↓reduceIte, reduceCtorEq, true_and, and_true, and_self, false_and, and_false, Int.reduceToNat, Int.reduceAdd, Int.reduceSub, Int.reduceMul, cond_true, cond_false, List.toList_toArray, Option.map_some, Option.map_none, Option.some.injEq, List.cons_append, List.nil_append, List.length_cons, List.length_nil, List.getD_cons_zero, List.getD_cons_succ]
      exact hR _ (Mod.refl _ _)
    · simp (config := { maxSteps := 1000000 }) (disch := first | omega | (simp only [sizeAlloc, sizeDrew, sizeSet, sizePut] <;> omega) | fail) only [GS1, GS2, GS3, GS4, GS5, GS6, GS7, GS8, GS9, GS10, GS11, TT_eq, TTl, Nat.reduceAdd, Nat.reduceMul, Nat.reduceSub, Nat.reduceDiv, Nat.reduceMod, Nat.reducePow, Nat.reduceEqDiff, ↓reduceIte, reduceCtorEq, true_and, and_true, and_self, false_and, and_false, Int.reduceToNat, Int.reduceAdd, Int.reduceSub, Int.reduceMul, cond_true, cond_false, List.toList_toArray, Option.map_some, Option.map_none, Option.some.injEq, List.cons_append, List.nil_append, List.length_cons, List.length_nil, List.getD_cons_zero, List.getD_cons_succ]
      exact hR _ (Mod.refl _ _)
/-- A row's parts, of 33 at most. -/
def rowR (l : List (List UInt8)) (x : Stp) : List UInt8 × Int := madeS (114 :: numL ((x.list.take 33).map (atL l)).length) ((x.list.take 33).map (atL l))
theorem mk5_made {front : List UInt8} {l : List (List UInt8)} (h : allS l = true) : mk5 (madeS front l) = madeS front l := by
  unfold madeS mk5
  rw [if_pos h]
  split <;> simp_all
theorem rowR_eq {l : List (List UInt8)} {x : Stp} (hl : ∀ s ∈ l, checkS s = 0) (hv : ∀ v ∈ x.list, 0 ≤ v ∧ v < l.length) : rowR l x = rowD l x := by
  have ha : ∀ q : List Int, (∀ v ∈ q, v ∈ x.list) → allS (q.map (atL l)) = true := by
    intro q hq
    unfold allS
    rw [List.all_eq_true]
    intro s hs
    obtain ⟨v, hv', rfl⟩ := List.mem_map.1 hs
    have := hv v (hq v hv')
    exact decide_eq_true (hl _ (atL_mem this.1 this.2))
  unfold rowR rowD
  by_cases h : x.list.length ≤ 32
  · rw [if_pos h, List.take_of_length_le (by omega), mk5_made (ha _ fun _ h => h)]
  · rw [if_neg h]
    have hlen : ((x.list.take 33).map (atL l)).length = 33 := by rw [List.length_map, List.length_take]; omega
    generalize hX : madeS (114 :: numL ((x.list.take 33).map (atL l)).length) ((x.list.take 33).map (atL l)) = X
    obtain ⟨t, e⟩ := X
    by_cases he : e = 0
    · subst he
      obtain ⟨K, t, hr⟩ := rowMade_is (by omega) hX
      have h2 := row_short (n := ((x.list.take 33).map (atL l)).length) (rest := encF K) (by omega) (by rw [← t.1]; exact t.ok)
      omega
    · unfold madeS at hX
      rw [if_pos (ha _ fun v hv => List.mem_of_mem_take hv)] at hX
      split at hX
      · simp only [Prod.mk.injEq] at hX
        exact absurd hX.2.symm he
      · exact hX.symm
set_option maxRecDepth 20000 in
set_option maxHeartbeats 4000000 in
theorem rRow11_cps (lv : Value) (l : List (List UInt8)) (x : Stp) (w : World) (R : Ending → World → Prop) (rl : Rd w 1 lv l.length (l.map strV)) (hl : ∀ s ∈ l, checkS s = 0) (ll : l.length ≤ 100000) (hx : StpIn w x) (hv : ∀ v ∈ x.list, 0 ≤ v ∧ v < l.length)
    (hR : ∀ w', Mod [] w w' → R (.returned (stV (rowR l x))) w') : Calls Try.prog 44 #[lv, x.sv] w R := by
  obtain ⟨la, lc, rfl⟩ := rl.slice
  obtain ⟨xo, xcap, hsv⟩ := hx.rd.slice
  have hrx := hx.rd
  rw [hsv] at hrx ⊢
  have hxl := hx.len
  unfold rowR at hR
  refine calls_go 4000 okT Try.func44 rfl (rs := [.tmp 4, .tmp 5]) rfl Try.ntmps44 (args := [.slice la l.length lc, .slice xo x.list.length xcap]) ?_
  simp (config := { maxSteps := 1000000 }) (disch := first | omega | (simp only [sizeAlloc, sizeDrew, sizeSet, sizePut] <;> omega) | fail) only [GS1, GS2, GS3, GS4, GS5, GS6, GS7, GS8, GS9, GS10, GS11, TT_eq, TTl, Nat.reduceAdd, Nat.reduceMul, Nat.reduceSub, Nat.reduceDiv, Nat.reduceMod, Nat.reducePow, Nat.reduceEqDiff, ↓reduceIte, reduceCtorEq, true_and, and_true, and_self, false_and, and_false, Int.reduceToNat, Int.reduceAdd, Int.reduceSub, Int.reduceMul, cond_true, cond_false, List.toList_toArray, Option.map_some, Option.map_none, Option.some.injEq, List.cons_append, List.nil_append, List.length_cons, List.length_nil, List.getD_cons_zero, List.getD_cons_succ]
  refine hold_loop okT (rs := [.tmp 4, .tmp 5]) rfl [6, 7] [8, 9, 10, 11, 12, 13, 14, 15, 16, 17, 18, 19, 20, 21, 22, 23, 24, 25, 26, 27] (fun vs w' => ∃ (k : Nat) (pv : Value), k ≤ x.list.length ∧ k ≤ 33 ∧ vs = [pv, .int .i64 k] ∧ w'.ownsRow w.heap.size 9 1 pv ((x.list.take k).map (atL l)).length (((x.list.take k).map (atL l)).map strV) ∧ Mod [] w w') (fun vs _ => match vs with | [_, .int _ i] => x.list.length - i.toNat | _ => 0) (by kernel_rfl) ⟨0, _, by omega, by omega, rfl, World.ownsRow_nil _ _ _ _, Mod.refl _ _⟩ ?_
  rintro vs w2 J ⟨k, pv, hk, hk33, rfl, hown, hN⟩
  have hcl := ownsRow_one hown
  have fin : x.list.take k = x.list.take 33 → R = R → True := fun _ _ => trivial
  by_cases hlt : k < x.list.length
  · by_cases h32 : k ≤ 32
    · have hrx := hrx.mod hN (by simp)
      obtain ⟨b1, o1, c1, e1, _, g1⟩ := hrx.at (by omega) (by omega)
      have f1 : w2.cell? ⟨b1, o1 + k, none⟩ = some (.int .i64 x.list[k]) := g1 k _ (getI hlt)
      rw [Value.slice.injEq] at e1
      obtain ⟨rfl, -, -⟩ := e1
      have hvk := hv _ (List.getElem_mem hlt)
      have htk : (x.list.take (k + 1)).map (atL l) = (x.list.take k).map (atL l) ++ [atL l x.list[k]] := by rw [List.take_succ_eq_append_getElem hlt, List.map_append]; rfl
      generalize x.list[k] = vk at f1 hvk htk
      obtain ⟨hv0, hv1⟩ := hvk
      obtain ⟨b2, o2, c2, e2, f2⟩ := rdAt rfl (rl.mod hN (by simp)) hv0 hv1
      rw [Value.slice.injEq] at e2
      obtain ⟨rfl, -, -⟩ := e2
      have hkl : ((x.list.take k).map (atL l)).length = k := by rw [List.length_map, List.length_take]; omega
      have hb0 := hN.size
      simp (config := { maxSteps := 1000000 }) (disch := first | omega | (simp only [sizeAlloc, sizeDrew, sizeSet, sizePut] <;> omega) | fail) only [GS1, GS2, GS3, GS4, GS5, GS6, GS7, GS8, GS9, GS10, GS11, TT_eq, TTl, Nat.reduceAdd, Nat.reduceMul, Nat.reduceSub, Nat.reduceDiv, Nat.reduceMod, Nat.reducePow, Nat.reduceEqDiff, ↓reduceIte, reduceCtorEq, true_and, and_true, and_self, false_and, and_false, Int.reduceToNat, Int.reduceAdd, Int.reduceSub, Int.reduceMul, cond_true, cond_false, List.toList_toArray, Option.map_some, Option.map_none, Option.some.injEq, List.cons_append, List.nil_append, List.length_cons, List.length_nil, List.getD_cons_zero, List.getD_cons_succ, f1, f2]
      refine hold_append1 okT rfl rfl rfl rfl rfl w.heap.size hown rfl rfl (u := .string ⟨(atL l vk).toArray⟩) rfl (by simp only; omega) (by unfold maxLen; omega) hb0 fun v' w3 hown3 hM3 _ => hold_ops okT (rs := [.tmp 4, .tmp 5]) rfl ?_
      simp (config := { maxSteps := 1000000 }) (disch := first | omega | (simp only [sizeAlloc, sizeDrew, sizeSet, sizePut] <;> omega) | fail) only [GS1, GS2, GS3, GS4, GS5, GS6, GS7, GS8, GS9, GS10, GS11, TT_eq, TTl, Nat.reduceAdd, Nat.reduceMul, Nat.reduceSub, Nat.reduceDiv, Nat.reduceMod, Nat.reducePow, Nat.reduceEqDiff, ↓reduceIte, reduceCtorEq, true_and, and_true, and_self, false_and, and_false, Int.reduceToNat, Int.reduceAdd, Int.reduceSub, Int.reduceMul, cond_true, cond_false, List.toList_toArray, Option.map_some, Option.map_none, Option.some.injEq, List.cons_append, List.nil_append, List.length_cons, List.length_nil, List.getD_cons_zero, List.getD_cons_succ]
      refine ⟨⟨k + 1, v', by omega, by omega, rfl, ?_, hN.trans hM3 (fun y hy => .inr (hown.lt y (by simpa using hy)).1)⟩, by omega⟩
      rw [htk, List.map_append, List.length_append]
      exact hown3
    · have e : k = 33 := by omega
      subst e
      have hlm : ((x.list.take 33).map (atL l)).length ≤ 33 := by rw [List.length_map, List.length_take]; omega
      have hrp := Rd.own hown
      simp (config := { maxSteps := 1000000 }) (disch := first | omega | (simp only [sizeAlloc, sizeDrew, sizeSet, sizePut] <;> omega) | fail) only [GS1, GS2, GS3, GS4, GS5, GS6, GS7, GS8, GS9, GS10, GS11, TT_eq, TTl, Nat.reduceAdd, Nat.reduceMul, Nat.reduceSub, Nat.reduceDiv, Nat.reduceMod, Nat.reducePow, Nat.reduceEqDiff, ↓reduceIte, reduceCtorEq, true_and, and_true, and_self, false_and, and_false, Int.reduceToNat, Int.reduceAdd, Int.reduceSub, Int.reduceMul, cond_true, cond_false, List.toList_toArray, Option.map_some, Option.map_none, Option.some.injEq, List.cons_append, List.nil_append, List.length_cons, List.length_nil, List.getD_cons_zero, List.getD_cons_succ]
      refine ⟨fok65, rRow_cps _ ((x.list.take 33).map (atL l)) _ _ (by omega) (fun s hs => by obtain ⟨v, hv', rfl⟩ := List.mem_map.1 hs; have h9 := hv v (List.mem_of_mem_take hv'); have := (check0 (hl _ (atL_mem h9.1 h9.2))).2.2.1; omega) hrp fun w3 hN3 => .inl ⟨_, rfl, hold_ops okT (rs := [.tmp 4, .tmp 5]) rfl ?_⟩⟩
      unfold stV
      simp (config := { maxSteps := 1000000 }) (disch := first | omega | (simp only [sizeAlloc, sizeDrew, sizeSet, sizePut] <;> omega) | fail) only [GS1, GS2, GS3, GS4, GS5, GS6, GS7, GS8, GS9, GS10, GS11, TT_eq, TTl, Nat.reduceAdd, Nat.reduceMul, Nat.reduceSub, Nat.reduceDiv, Nat.reduceMod, Nat.reducePow, Nat.reduceEqDiff, ↓reduceIte, reduceCtorEq, true_and, and_true, and_self, false_and, and_false, Int.reduceToNat, Int.reduceAdd, Int.reduceSub, Int.reduceMul, cond_true, cond_false, List.toList_toArray, Option.map_some, Option.map_none, Option.some.injEq, List.cons_append, List.nil_append, List.length_cons, List.length_nil, List.getD_cons_zero, List.getD_cons_succ]
      exact hR _ (hN.trans hN3 (by simp))
  · have e : k = x.list.length := by omega
    subst e
    have e33 : x.list.take 33 = x.list.take x.list.length := by rw [List.take_length, List.take_of_length_le (by omega)]
    rw [e33] at hR
    have hlm : ((x.list.take x.list.length).map (atL l)).length ≤ 33 := by rw [List.length_map, List.length_take]; omega
    have hrp := Rd.own hown
    have hv' : ∀ v ∈ x.list.take x.list.length, 0 ≤ v ∧ v < l.length := fun v h => hv v (List.mem_of_mem_take h)
    generalize x.list.take x.list.length = q at *
    simp (config := { maxSteps := 1000000 }) (disch := first | omega | (simp only [sizeAlloc, sizeDrew, sizeSet, sizePut] <;> omega) | fail) only [GS1, GS2, GS3, GS4, GS5, GS6, GS7, GS8, GS9, GS10, GS11, TT_eq, TTl, Nat.reduceAdd, Nat.reduceMul, Nat.reduceSub, Nat.reduceDiv, Nat.reduceMod, Nat.reducePow, Nat.reduceEqDiff, ↓reduceIte, reduceCtorEq, true_and, and_true, and_self, false_and, and_false, Int.reduceToNat, Int.reduceAdd, Int.reduceSub, Int.reduceMul, cond_true, cond_false, List.toList_toArray, Option.map_some, Option.map_none, Option.some.injEq, List.cons_append, List.nil_append, List.length_cons, List.length_nil, List.getD_cons_zero, List.getD_cons_succ]
    refine ⟨fok65, rRow_cps _ (q.map (atL l)) _ _ (by omega) (fun s hs => by obtain ⟨v, hv9, rfl⟩ := List.mem_map.1 hs; have h9 := hv' v hv9; have := (check0 (hl _ (atL_mem h9.1 h9.2))).2.2.1; omega) hrp fun w3 hN3 => .inl ⟨_, rfl, hold_ops okT (rs := [.tmp 4, .tmp 5]) rfl ?_⟩⟩
    unfold stV
    simp (config := { maxSteps := 1000000 }) (disch := first | omega | (simp only [sizeAlloc, sizeDrew, sizeSet, sizePut] <;> omega) | fail) only [GS1, GS2, GS3, GS4, GS5, GS6, GS7, GS8, GS9, GS10, GS11, TT_eq, TTl, Nat.reduceAdd, Nat.reduceMul, Nat.reduceSub, Nat.reduceDiv, Nat.reduceMod, Nat.reducePow, Nat.reduceEqDiff, ↓reduceIte, reduceCtorEq, true_and, and_true, and_self, false_and, and_false, Int.reduceToNat, Int.reduceAdd, Int.reduceSub, Int.reduceMul, cond_true, cond_false, List.toList_toArray, Option.map_some, Option.map_none, Option.some.injEq, List.cons_append, List.nil_append, List.length_cons, List.length_nil, List.getD_cons_zero, List.getD_cons_succ]
    exact hR _ (hN.trans hN3 (by simp))
/-- A step in the reference's hands. -/
structure SX (w : World) (bx : Nat) (sv lv : Value) (seen l : List (List UInt8)) (x : Stp) : Prop where
  inp : StpIn w x
  bx : w.heap[bx]? = some (.cells (stpC x).toArray 46 (0, 0))
  rs : Rd w 1 sv seen.length (seen.map strV)
  rl : Rd w 1 lv l.length (l.map strV)
theorem SX.mod {w w' : World} {bx : Nat} {sv lv : Value} {seen l : List (List UInt8)} {x : Stp} (h : SX w bx sv lv seen l x) (hm : Mod [] w w') : SX w' bx sv lv seen l x := ⟨h.inp.mod hm (by simp), hm.get h.bx (by simp), h.rs.mod hm (by simp), h.rl.mod hm (by simp)⟩
section
variable {w : World} {bx : Nat} {sv lv : Value} {seen l : List (List UInt8)} {x : Stp}
theorem SX.cd (h : SX w bx sv lv seen l x) : w.cell? ⟨bx, 0, none⟩ = some (.int .u8 x.d) := by rw [cellOf h.bx]; rfl
theorem SX.ca (h : SX w bx sv lv seen l x) : w.cell? ⟨bx, 1, none⟩ = some (.int .i64 x.a) := by rw [cellOf h.bx]; rfl
theorem SX.cb (h : SX w bx sv lv seen l x) : w.cell? ⟨bx, 2, none⟩ = some (.int .i64 x.b) := by rw [cellOf h.bx]; rfl
theorem SX.cc (h : SX w bx sv lv seen l x) : w.cell? ⟨bx, 3, none⟩ = some (.int .i64 x.c) := by rw [cellOf h.bx]; rfl
theorem SX.cn (h : SX w bx sv lv seen l x) : w.cell? ⟨bx, 4, none⟩ = some (.int .i64 x.n) := by rw [cellOf h.bx]; rfl
theorem SX.ct (h : SX w bx sv lv seen l x) : w.cell? ⟨bx, 5, none⟩ = some (.string ⟨x.text.toArray⟩) := by rw [cellOf h.bx]; rfl
theorem SX.cl (h : SX w bx sv lv seen l x) : w.cell? ⟨bx, 6, none⟩ = some x.sv := by rw [cellOf h.bx]; rfl
end
theorem mk5_data (s : List UInt8) : mk5 (dataS s) = dataS s := by
  unfold mk5 dataS
  split <;> simp_all
theorem allS_of {l : List (List UInt8)} (h : ∀ s ∈ l, checkS s = 0) : allS l = true := by
  unfold allS
  rw [List.all_eq_true]
  exact fun s hs => decide_eq_true (h s hs)
theorem namesS_none {d : Nat} (h1 : d ≠ 1) (h2 : d ≠ 2) (h3 : d ≠ 3) (h4 : d ≠ 4) (h5 : d ≠ 5) (h6 : d ≠ 6) (h7 : d ≠ 7) (h8 : d ≠ 8) (h9 : d ≠ 9) : namesS d = none := by
  unfold namesS
  split <;> first | rfl | exact absurd rfl ‹_›
theorem doS_ref {seen l : List (List UInt8)} {x : Stp} (hl : ∀ s ∈ l, checkS s = 0) (hm : mayS x l.length = true) :
    (x.d = 1 ∧ doS seen l x = lookD seen x) ∨ (x.d = 2 ∧ doS seen l x = dataS x.text) ∨
    (x.d = 3 ∧ (0 ≤ x.a ∧ x.a < l.length) ∧ doS seen l x = partD l x) ∨ (x.d = 4 ∧ (0 ≤ x.a ∧ x.a < l.length) ∧ doS seen l x = nonceD l x) ∨
    (x.d = 5 ∧ (0 ≤ x.a ∧ x.a < l.length) ∧ (0 ≤ x.b ∧ x.b < l.length) ∧ doS seen l x = bodyD l x) ∨
    (x.d = 6 ∧ (∀ v ∈ x.list, 0 ≤ v ∧ v < l.length) ∧ doS seen l x = rowR l x) ∨
    (x.d = 7 ∧ (0 ≤ x.a ∧ x.a < l.length) ∧ doS seen l x = madeS [104] [atL l x.a]) ∨
    (x.d = 8 ∧ (0 ≤ x.a ∧ x.a < l.length) ∧ (0 ≤ x.b ∧ x.b < l.length) ∧ doS seen l x = madeS [109] [atL l x.a, atL l x.b]) ∨
    (x.d = 9 ∧ (0 ≤ x.a ∧ x.a < l.length) ∧ (0 ≤ x.b ∧ x.b < l.length) ∧ (0 ≤ x.c ∧ x.c < l.length) ∧ doS seen l x = madeS [115] [atL l x.a, atL l x.b, atL l x.c]) := by
  have hmk : ∀ s bn bt bl, namesS x.d = some (s, bn, bt, bl) → mayK s bn bt bl x l.length = true := fun s bn bt bl e => by unfold mayS at hm; rw [e] at hm; exact hm
  have hmm : ∀ i : Int, (0 ≤ i ∧ i < l.length) → checkS (atL l i) = 0 := fun i h => hl _ (atL_mem h.1 h.2)
  by_cases h1 : x.d = 1
  · exact .inl ⟨h1, by unfold doS; rw [h1]; rfl⟩
  by_cases h2 : x.d = 2
  · exact .inr (.inl ⟨h2, by unfold doS; rw [h2]; exact mk5_data _⟩)
  by_cases h3 : x.d = 3
  · obtain ⟨q1, q2, q3, q4⟩ := mayK_of (hmk 1 true false false (by rw [h3]; rfl))
    exact .inr (.inr (.inl ⟨h3, q1 (by omega), by unfold doS; rw [h3]; rfl⟩))
  by_cases h4 : x.d = 4
  · obtain ⟨q1, q2, q3, q4⟩ := mayK_of (hmk 1 false false false (by rw [h4]; rfl))
    exact .inr (.inr (.inr (.inl ⟨h4, q1 (by omega), by unfold doS; rw [h4]; rfl⟩)))
  by_cases h5 : x.d = 5
  · obtain ⟨q1, q2, q3, q4⟩ := mayK_of (hmk 2 false false false (by rw [h5]; rfl))
    exact .inr (.inr (.inr (.inr (.inl ⟨h5, q1 (by omega), q2 (by omega), by unfold doS; rw [h5]; rfl⟩))))
  by_cases h6 : x.d = 6
  · obtain ⟨q1, q2, q3, q4⟩ := mayK_of (hmk 0 false false true (by rw [h6]; rfl))
    exact .inr (.inr (.inr (.inr (.inr (.inl ⟨h6, q4, by unfold doS; rw [h6]; exact (rowR_eq hl q4).symm⟩)))))
  by_cases h7 : x.d = 7
  · obtain ⟨q1, q2, q3, q4⟩ := mayK_of (hmk 1 false false false (by rw [h7]; rfl))
    exact .inr (.inr (.inr (.inr (.inr (.inr (.inl ⟨h7, q1 (by omega), by unfold doS; rw [h7]; exact mk5_made (allS_of fun s hs => by simp at hs; rw [hs]; exact hmm _ (q1 (by omega)))⟩))))))
  by_cases h8 : x.d = 8
  · obtain ⟨q1, q2, q3, q4⟩ := mayK_of (hmk 2 false false false (by rw [h8]; rfl))
    exact .inr (.inr (.inr (.inr (.inr (.inr (.inr (.inl ⟨h8, q1 (by omega), q2 (by omega), by unfold doS; rw [h8]; exact mk5_made (allS_of fun s hs => by simp at hs; rcases hs with rfl | rfl; exact hmm _ (q1 (by omega)); exact hmm _ (q2 (by omega)))⟩)))))))
  by_cases h9 : x.d = 9
  · obtain ⟨q1, q2, q3, q4⟩ := mayK_of (hmk 3 false false false (by rw [h9]; rfl))
    exact .inr (.inr (.inr (.inr (.inr (.inr (.inr (.inr ⟨h9, q1 (by omega), q2 (by omega), q3 (by omega), by unfold doS; rw [h9]; exact mk5_made (allS_of fun s hs => by simp at hs; rcases hs with rfl | rfl | rfl; exact hmm _ (q1 (by omega)); exact hmm _ (q2 (by omega)); exact hmm _ (q3 (by omega)))⟩)))))))
  unfold mayS at hm
  have : namesS x.d = none := namesS_none h1 h2 h3 h4 h5 h6 h7 h8 h9
  rw [this] at hm
  exact absurd hm (by simp)
set_option maxRecDepth 20000 in
set_option maxHeartbeats 8000000 in
theorem rStep_cps (sv lv : Value) (seen l : List (List UInt8)) (x : Stp) (w : World) (R : Ending → World → Prop) (rs : Rd w 1 sv seen.length (seen.map strV)) (rl : Rd w 1 lv l.length (l.map strV)) (hs : ∀ s ∈ seen, s.length ≤ maxLen) (ls : seen.length ≤ 9223372036854775807) (hl : ∀ s ∈ l, checkS s = 0) (ll : l.length ≤ 100000)
    (hx : StpIn w x) (hm : mayS x l.length = true) (hR : ∀ w', Mod [] w w' → R (.returned (stV (doS seen l x))) w') : Calls Try.prog 24 #[sv, lv, .agg (stpC x).toArray] w R := by
  have hM := (Mod.refl [] w).alloc (.cells (stpC x).toArray 46)
  have F : SX (w.alloc (.cells (stpC x).toArray 46)) w.heap.size sv lv seen l x := ⟨hx.mod hM (by simp), heapNew, rs.mod hM (by simp), rl.mod hM (by simp)⟩
  obtain ⟨la, lc, rfl⟩ := rl.slice
  obtain ⟨sa, sc, rfl⟩ := rs.slice
  have hlen : ∀ i : Int, (0 ≤ i ∧ i < l.length) → (atL l i).length ≤ 16384 := fun i h => (check0 (hl _ (atL_mem h.1 h.2))).2.2.1
  have hok : ∀ i : Int, (0 ≤ i ∧ i < l.length) → checkS (atL l i) = 0 := fun i h => hl _ (atL_mem h.1 h.2)
  have hbn := hx.n
  have hxd := hx.d
  have hcs := doS_ref (seen := seen) hl hm
  generalize doS seen l x = X at *
  refine calls_go 4000 okT Try.func24 rfl (rs := [.tmp 6, .tmp 7]) rfl Try.ntmps24 (args := [.slice sa seen.length sc, .slice la l.length lc, .agg (stpC x).toArray]) ?_
  simp (config := { maxSteps := 1000000 }) (disch := first | omega | (simp only [sizeAlloc, sizeDrew, sizeSet, sizePut] <;> omega) | fail) only [GS1, GS2, GS3, GS4, GS5, GS6, GS7, GS8, GS9, GS10, GS11, TT_eq, TTl, Nat.reduceAdd, Nat.reduceMul, Nat.reduceSub, Nat.reduceDiv, Nat.reduceMod, Nat.reducePow, Nat.reduceEqDiff, ↓reduceIte, reduceCtorEq, true_and, and_true, and_self, false_and, and_false, Int.reduceToNat, Int.reduceAdd, Int.reduceSub, Int.reduceMul, cond_true, cond_false, List.toList_toArray, Option.map_some, Option.map_none, Option.some.injEq, List.cons_append, List.nil_append, List.length_cons, List.length_nil, List.getD_cons_zero, List.getD_cons_succ, st0, st1, st2, st3, st4, st5, st6]
  generalize w.alloc _ = w1 at *
  generalize w.heap.size = bx at *
  rcases hcs with ⟨hd, hX⟩ | ⟨hd, hX⟩ | ⟨hd, ha, hX⟩ | ⟨hd, ha, hX⟩ | ⟨hd, ha, hb, hX⟩ | ⟨hd, hv, hX⟩ | ⟨hd, ha, hX⟩ | ⟨hd, ha, hb, hX⟩ | ⟨hd, ha, hb, hc, hX⟩
  · simp (config := { maxSteps := 1000000 }) (disch := first | omega | (simp only [sizeAlloc, sizeDrew, sizeSet, sizePut] <;> omega) | fail) only [GS1, GS2, GS3, GS4, GS5, GS6, GS7, GS8, GS9, GS10, GS11, TT_eq, TTl, Nat.reduceAdd, Nat.reduceMul, Nat.reduceSub, Nat.reduceDiv, Nat.reduceMod, Nat.reducePow, Nat.reduceEqDiff, ↓reduceIte, reduceCtorEq, true_and, and_true, and_self, false_and, and_false, Int.reduceToNat, Int.reduceAdd, Int.reduceSub, Int.reduceMul, cond_true, cond_false, List.toList_toArray, Option.map_some, Option.map_none, Option.some.injEq, List.cons_append, List.nil_append, List.length_cons, List.length_nil, List.getD_cons_zero, List.getD_cons_succ, F.cd, F.cn]
    refine ⟨fok42, rSeen_cps _ seen x _ _ F.rs hs ls hbn fun w2 hM2 => .inl ⟨_, rfl, hold_ops okT (rs := [.tmp 6, .tmp 7]) rfl ?_⟩⟩
    rw [← hX]
    obtain ⟨t, e⟩ := X
    unfold stV
    simp (config := { maxSteps := 1000000 }) (disch := first | omega | (simp only [sizeAlloc, sizeDrew, sizeSet, sizePut] <;> omega) | fail) only [GS1, GS2, GS3, GS4, GS5, GS6, GS7, GS8, GS9, GS10, GS11, TT_eq, TTl, Nat.reduceAdd, Nat.reduceMul, Nat.reduceSub, Nat.reduceDiv, Nat.reduceMod, Nat.reducePow, Nat.reduceEqDiff, ↓reduceIte, reduceCtorEq, true_and, and_true, and_self, false_and, and_false, Int.reduceToNat, Int.reduceAdd, Int.reduceSub, Int.reduceMul, cond_true, cond_false, List.toList_toArray, Option.map_some, Option.map_none, Option.some.injEq, List.cons_append, List.nil_append, List.length_cons, List.length_nil, List.getD_cons_zero, List.getD_cons_succ]
    exact hR _ (hM.trans hM2 (by simp))
  · simp (config := { maxSteps := 1000000 }) (disch := first | omega | (simp only [sizeAlloc, sizeDrew, sizeSet, sizePut] <;> omega) | fail) only [GS1, GS2, GS3, GS4, GS5, GS6, GS7, GS8, GS9, GS10, GS11, TT_eq, TTl, Nat.reduceAdd, Nat.reduceMul, Nat.reduceSub, Nat.reduceDiv, Nat.reduceMod, Nat.reducePow, Nat.reduceEqDiff, ↓reduceIte, reduceCtorEq, true_and, and_true, and_self, false_and, and_false, Int.reduceToNat, Int.reduceAdd, Int.reduceSub, Int.reduceMul, cond_true, cond_false, List.toList_toArray, Option.map_some, Option.map_none, Option.some.injEq, List.cons_append, List.nil_append, List.length_cons, List.length_nil, List.getD_cons_zero, List.getD_cons_succ, F.cd, F.ct]
    refine ⟨fok43, rData_cps x.text hx.text _ _ fun w2 hM2 => .inl ⟨_, rfl, hold_ops okT (rs := [.tmp 6, .tmp 7]) rfl ?_⟩⟩
    rw [← hX]
    obtain ⟨t, e⟩ := X
    unfold stV
    simp (config := { maxSteps := 1000000 }) (disch := first | omega | (simp only [sizeAlloc, sizeDrew, sizeSet, sizePut] <;> omega) | fail) only [GS1, GS2, GS3, GS4, GS5, GS6, GS7, GS8, GS9, GS10, GS11, TT_eq, TTl, Nat.reduceAdd, Nat.reduceMul, Nat.reduceSub, Nat.reduceDiv, Nat.reduceMod, Nat.reducePow, Nat.reduceEqDiff, ↓reduceIte, reduceCtorEq, true_and, and_true, and_self, false_and, and_false, Int.reduceToNat, Int.reduceAdd, Int.reduceSub, Int.reduceMul, cond_true, cond_false, List.toList_toArray, Option.map_some, Option.map_none, Option.some.injEq, List.cons_append, List.nil_append, List.length_cons, List.length_nil, List.getD_cons_zero, List.getD_cons_succ]
    exact hR _ (hM.trans hM2 (by simp))
  · obtain ⟨ha0, ha1⟩ := id ha
    simp (config := { maxSteps := 1000000 }) (disch := first | omega | (simp only [sizeAlloc, sizeDrew, sizeSet, sizePut] <;> omega) | fail) only [GS1, GS2, GS3, GS4, GS5, GS6, GS7, GS8, GS9, GS10, GS11, TT_eq, TTl, Nat.reduceAdd, Nat.reduceMul, Nat.reduceSub, Nat.reduceDiv, Nat.reduceMod, Nat.reducePow, Nat.reduceEqDiff, ↓reduceIte, reduceCtorEq, true_and, and_true, and_self, false_and, and_false, Int.reduceToNat, Int.reduceAdd, Int.reduceSub, Int.reduceMul, cond_true, cond_false, List.toList_toArray, Option.map_some, Option.map_none, Option.some.injEq, List.cons_append, List.nil_append, List.length_cons, List.length_nil, List.getD_cons_zero, List.getD_cons_succ, F.cd]
    obtain ⟨b1, o1, c1, e1, f1⟩ := rdAt rfl F.rl ha.1 ha.2
    rw [Value.slice.injEq] at e1
    obtain ⟨rfl, -, -⟩ := e1
    simp (config := { maxSteps := 1000000 }) (disch := first | omega | (simp only [sizeAlloc, sizeDrew, sizeSet, sizePut] <;> omega) | fail) only [GS1, GS2, GS3, GS4, GS5, GS6, GS7, GS8, GS9, GS10, GS11, TT_eq, TTl, Nat.reduceAdd, Nat.reduceMul, Nat.reduceSub, Nat.reduceDiv, Nat.reduceMod, Nat.reducePow, Nat.reduceEqDiff, ↓reduceIte, reduceCtorEq, true_and, and_true, and_self, false_and, and_false, Int.reduceToNat, Int.reduceAdd, Int.reduceSub, Int.reduceMul, cond_true, cond_false, List.toList_toArray, Option.map_some, Option.map_none, Option.some.injEq, List.cons_append, List.nil_append, List.length_cons, List.length_nil, List.getD_cons_zero, List.getD_cons_succ, F.ca, f1]
    refine ⟨fok48, rKind_cps _ (hok _ ha) _ _ fun w2 hM2 => .inl ⟨_, rfl, hold_ops okT (rs := [.tmp 6, .tmp 7]) rfl ?_⟩⟩
    have F := F.mod hM2
    have hM := hM.trans hM2 (by simp)
    have f1 := cellMod hM2 f1
    have hk6 : kindS (atL l x.a) ≤ 6 := by unfold kindS; split; exact kC_le _; omega
    simp (config := { maxSteps := 1000000 }) (disch := first | omega | (simp only [sizeAlloc, sizeDrew, sizeSet, sizePut] <;> omega) | fail) only [GS1, GS2, GS3, GS4, GS5, GS6, GS7, GS8, GS9, GS10, GS11, TT_eq, TTl, Nat.reduceAdd, Nat.reduceMul, Nat.reduceSub, Nat.reduceDiv, Nat.reduceMod, Nat.reducePow, Nat.reduceEqDiff, ↓reduceIte, reduceCtorEq, true_and, and_true, and_self, false_and, and_false, Int.reduceToNat, Int.reduceAdd, Int.reduceSub, Int.reduceMul, cond_true, cond_false, List.toList_toArray, Option.map_some, Option.map_none, Option.some.injEq, List.cons_append, List.nil_append, List.length_cons, List.length_nil, List.getD_cons_zero, List.getD_cons_succ, F.ca, f1]
    refine ⟨fok49, rParts_cps _ (hok _ ha) _ _ fun pv w3 hown hM3 => .inl ⟨_, rfl, hold_ops okT (rs := [.tmp 6, .tmp 7]) rfl ?_⟩⟩
    have F := F.mod hM3
    have hM := hM.trans hM3 (by simp)
    have hrp := Rd.own hown
    have hpl : (partsS (atL l x.a)).length ≤ 16384 := by
      have h1 := partsS_len (atL l x.a)
      have h2 := hlen _ ha
      omega
    unfold partD at hX
    by_cases hk : kindS (atL l x.a) = 3
    · rw [if_pos hk] at hX
      obtain ⟨pa, pc, hpv⟩ := hrp.slice
      subst hpv
      have hpd : partsD l x = partsS (atL l x.a) := rfl
      rw [hpd] at hX
      by_cases hn : 0 ≤ x.n ∧ x.n < (partsS (atL l x.a)).length
      · rw [if_pos hn] at hX
        subst hX
        obtain ⟨n0, n1⟩ := hn
        obtain ⟨b2, o2, c2, e2, f2⟩ := rdAt rfl hrp n0 n1
        rw [Value.slice.injEq] at e2
        obtain ⟨rfl, -, -⟩ := e2
        simp (config := { maxSteps := 1000000 }) (disch := first | omega | (simp only [sizeAlloc, sizeDrew, sizeSet, sizePut] <;> omega) | fail) only [GS1, GS2, GS3, GS4, GS5, GS6, GS7, GS8, GS9, GS10, GS11, TT_eq, TTl, Nat.reduceAdd, Nat.reduceMul, Nat.reduceSub, Nat.reduceDiv, Nat.reduceMod, Nat.reducePow, Nat.reduceEqDiff, ↓reduceIte, reduceCtorEq, true_and, and_true, and_self, false_and, and_false, Int.reduceToNat, Int.reduceAdd, Int.reduceSub, Int.reduceMul, cond_true, cond_false, List.toList_toArray, Option.map_some, Option.map_none, Option.some.injEq, List.cons_append, List.nil_append, List.length_cons, List.length_nil, List.getD_cons_zero, List.getD_cons_succ, F.cd, F.cn, f2]
        exact hR _ hM
      · rw [if_neg hn] at hX
        subst hX
        have h2 : x.n < 0 ∨ (0 ≤ x.n ∧ (partsS (atL l x.a)).length ≤ x.n) := by omega
        rcases h2 with h2 | ⟨h2, h3⟩
        · simp (config := { maxSteps := 1000000 }) (disch := first | omega | (simp only [sizeAlloc, sizeDrew, sizeSet, sizePut] <;> omega) | fail) only [GS1, GS2, GS3, GS4, GS5, GS6, GS7, GS8, GS9, GS10, GS11, TT_eq, TTl, Nat.reduceAdd, Nat.reduceMul, Nat.reduceSub, Nat.reduceDiv, Nat.reduceMod, Nat.reducePow, Nat.reduceEqDiff, ↓reduceIte, reduceCtorEq, true_and, and_true, and_self, false_and, and_false, Int.reduceToNat, Int.reduceAdd, Int.reduceSub, Int.reduceMul, cond_true, cond_false, List.toList_toArray, Option.map_some, Option.map_none, Option.some.injEq, List.cons_append, List.nil_append, List.length_cons, List.length_nil, List.getD_cons_zero, List.getD_cons_succ, F.cd, F.cn]
          exact hR _ hM
        · simp (config := { maxSteps := 1000000 }) (disch := first | omega | (simp only [sizeAlloc, sizeDrew, sizeSet, sizePut] <;> omega) | fail) only [GS1, GS2, GS3, GS4, GS5, GS6, GS7, GS8, GS9, GS10, GS11, TT_eq, TTl, Nat.reduceAdd, Nat.reduceMul, Nat.reduceSub, Nat.reduceDiv, Nat.reduceMod, Nat.reducePow, Nat.reduceEqDiff, ↓reduceIte, reduceCtorEq, true_and, and_true, and_self, false_and, and_false, Int.reduceToNat, Int.reduceAdd, Int.reduceSub, Int.reduceMul, cond_true, cond_false, List.toList_toArray, Option.map_some, Option.map_none, Option.some.injEq, List.cons_append, List.nil_append, List.length_cons, List.length_nil, List.getD_cons_zero, List.getD_cons_succ, F.cd, F.cn]
          exact hR _ hM
    · rw [if_neg hk] at hX
      subst hX
      simp (config := { maxSteps := 1000000 }) (disch := first | omega | (simp only [sizeAlloc, sizeDrew, sizeSet, sizePut] <;> omega) | fail) only [GS1, GS2, GS3, GS4, GS5, GS6, GS7, GS8, GS9, GS10, GS11, TT_eq, TTl, Nat.reduceAdd, Nat.reduceMul, Nat.reduceSub, Nat.reduceDiv, Nat.reduceMod, Nat.reducePow, Nat.reduceEqDiff, ↓reduceIte, reduceCtorEq, true_and, and_true, and_self, false_and, and_false, Int.reduceToNat, Int.reduceAdd, Int.reduceSub, Int.reduceMul, cond_true, cond_false, List.toList_toArray, Option.map_some, Option.map_none, Option.some.injEq, List.cons_append, List.nil_append, List.length_cons, List.length_nil, List.getD_cons_zero, List.getD_cons_succ, F.cd]
      exact hR _ hM
  · obtain ⟨ha0, ha1⟩ := id ha
    simp (config := { maxSteps := 1000000 }) (disch := first | omega | (simp only [sizeAlloc, sizeDrew, sizeSet, sizePut] <;> omega) | fail) only [GS1, GS2, GS3, GS4, GS5, GS6, GS7, GS8, GS9, GS10, GS11, TT_eq, TTl, Nat.reduceAdd, Nat.reduceMul, Nat.reduceSub, Nat.reduceDiv, Nat.reduceMod, Nat.reducePow, Nat.reduceEqDiff, ↓reduceIte, reduceCtorEq, true_and, and_true, and_self, false_and, and_false, Int.reduceToNat, Int.reduceAdd, Int.reduceSub, Int.reduceMul, cond_true, cond_false, List.toList_toArray, Option.map_some, Option.map_none, Option.some.injEq, List.cons_append, List.nil_append, List.length_cons, List.length_nil, List.getD_cons_zero, List.getD_cons_succ, F.cd]
    obtain ⟨b1, o1, c1, e1, f1⟩ := rdAt rfl F.rl ha.1 ha.2
    rw [Value.slice.injEq] at e1
    obtain ⟨rfl, -, -⟩ := e1
    simp (config := { maxSteps := 1000000 }) (disch := first | omega | (simp only [sizeAlloc, sizeDrew, sizeSet, sizePut] <;> omega) | fail) only [GS1, GS2, GS3, GS4, GS5, GS6, GS7, GS8, GS9, GS10, GS11, TT_eq, TTl, Nat.reduceAdd, Nat.reduceMul, Nat.reduceSub, Nat.reduceDiv, Nat.reduceMod, Nat.reducePow, Nat.reduceEqDiff, ↓reduceIte, reduceCtorEq, true_and, and_true, and_self, false_and, and_false, Int.reduceToNat, Int.reduceAdd, Int.reduceSub, Int.reduceMul, cond_true, cond_false, List.toList_toArray, Option.map_some, Option.map_none, Option.some.injEq, List.cons_append, List.nil_append, List.length_cons, List.length_nil, List.getD_cons_zero, List.getD_cons_succ, F.ca, f1]
    refine ⟨fok48, rKind_cps _ (hok _ ha) _ _ fun w2 hM2 => .inl ⟨_, rfl, hold_ops okT (rs := [.tmp 6, .tmp 7]) rfl ?_⟩⟩
    have F := F.mod hM2
    have hM := hM.trans hM2 (by simp)
    have f1 := cellMod hM2 f1
    have hk6 : kindS (atL l x.a) ≤ 6 := by unfold kindS; split; exact kC_le _; omega
    simp (config := { maxSteps := 1000000 }) (disch := first | omega | (simp only [sizeAlloc, sizeDrew, sizeSet, sizePut] <;> omega) | fail) only [GS1, GS2, GS3, GS4, GS5, GS6, GS7, GS8, GS9, GS10, GS11, TT_eq, TTl, Nat.reduceAdd, Nat.reduceMul, Nat.reduceSub, Nat.reduceDiv, Nat.reduceMod, Nat.reducePow, Nat.reduceEqDiff, ↓reduceIte, reduceCtorEq, true_and, and_true, and_self, false_and, and_false, Int.reduceToNat, Int.reduceAdd, Int.reduceSub, Int.reduceMul, cond_true, cond_false, List.toList_toArray, Option.map_some, Option.map_none, Option.some.injEq, List.cons_append, List.nil_append, List.length_cons, List.length_nil, List.getD_cons_zero, List.getD_cons_succ, F.ca, f1]
    refine ⟨fok49, rParts_cps _ (hok _ ha) _ _ fun pv w3 hown hM3 => .inl ⟨_, rfl, hold_ops okT (rs := [.tmp 6, .tmp 7]) rfl ?_⟩⟩
    have F := F.mod hM3
    have hM := hM.trans hM3 (by simp)
    have hrp := Rd.own hown
    have hpl : (partsS (atL l x.a)).length ≤ 16384 := by
      have h1 := partsS_len (atL l x.a)
      have h2 := hlen _ ha
      omega
    unfold nonceD at hX
    by_cases hk : kindS (atL l x.a) = 6
    · rw [if_pos hk] at hX
      subst hX
      have hp3 : (partsD l x).length = 3 := by
        have ho := opens_plain (hok _ ha)
        rcases ho with ⟨g, _⟩ | ⟨g, _⟩ | ⟨g, _⟩ | ⟨g, _⟩ | ⟨g, _⟩ | ⟨_, _, a, b, c, g, _⟩ <;> first | (rw [hk] at g; exact absurd g (by decide)) | (unfold partsD; rw [g]; rfl)
      obtain ⟨b2, o2, c2, e2, f2⟩ := rdAt rfl hrp (i := 1) (by omega) (by unfold partsD at hp3; omega)
      subst e2
      have f2 : w3.cell? ⟨b2, o2 + 1, none⟩ = some (.string ⟨(atL (partsD l x) 1).toArray⟩) := f2
      have hp3 : (partsS (atL l x.a)).length = 3 := hp3
      simp (config := { maxSteps := 1000000 }) (disch := first | omega | (simp only [sizeAlloc, sizeDrew, sizeSet, sizePut] <;> omega) | fail) only [GS1, GS2, GS3, GS4, GS5, GS6, GS7, GS8, GS9, GS10, GS11, TT_eq, TTl, Nat.reduceAdd, Nat.reduceMul, Nat.reduceSub, Nat.reduceDiv, Nat.reduceMod, Nat.reducePow, Nat.reduceEqDiff, ↓reduceIte, reduceCtorEq, true_and, and_true, and_self, false_and, and_false, Int.reduceToNat, Int.reduceAdd, Int.reduceSub, Int.reduceMul, cond_true, cond_false, List.toList_toArray, Option.map_some, Option.map_none, Option.some.injEq, List.cons_append, List.nil_append, List.length_cons, List.length_nil, List.getD_cons_zero, List.getD_cons_succ, F.cd, f2]
      exact hR _ hM
    · rw [if_neg hk] at hX
      subst hX
      simp (config := { maxSteps := 1000000 }) (disch := first | omega | (simp only [sizeAlloc, sizeDrew, sizeSet, sizePut] <;> omega) | fail) only [GS1, GS2, GS3, GS4, GS5, GS6, GS7, GS8, GS9, GS10, GS11, TT_eq, TTl, Nat.reduceAdd, Nat.reduceMul, Nat.reduceSub, Nat.reduceDiv, Nat.reduceMod, Nat.reducePow, Nat.reduceEqDiff, ↓reduceIte, reduceCtorEq, true_and, and_true, and_self, false_and, and_false, Int.reduceToNat, Int.reduceAdd, Int.reduceSub, Int.reduceMul, cond_true, cond_false, List.toList_toArray, Option.map_some, Option.map_none, Option.some.injEq, List.cons_append, List.nil_append, List.length_cons, List.length_nil, List.getD_cons_zero, List.getD_cons_succ, F.cd]
      exact hR _ hM
  · obtain ⟨ha0, ha1⟩ := id ha
    obtain ⟨hb0, hb1⟩ := id hb
    simp (config := { maxSteps := 1000000 }) (disch := first | omega | (simp only [sizeAlloc, sizeDrew, sizeSet, sizePut] <;> omega) | fail) only [GS1, GS2, GS3, GS4, GS5, GS6, GS7, GS8, GS9, GS10, GS11, TT_eq, TTl, Nat.reduceAdd, Nat.reduceMul, Nat.reduceSub, Nat.reduceDiv, Nat.reduceMod, Nat.reducePow, Nat.reduceEqDiff, ↓reduceIte, reduceCtorEq, true_and, and_true, and_self, false_and, and_false, Int.reduceToNat, Int.reduceAdd, Int.reduceSub, Int.reduceMul, cond_true, cond_false, List.toList_toArray, Option.map_some, Option.map_none, Option.some.injEq, List.cons_append, List.nil_append, List.length_cons, List.length_nil, List.getD_cons_zero, List.getD_cons_succ, F.cd]
    obtain ⟨b1, o1, c1, e1, f1⟩ := rdAt rfl F.rl ha.1 ha.2
    rw [Value.slice.injEq] at e1
    obtain ⟨rfl, -, -⟩ := e1
    simp (config := { maxSteps := 1000000 }) (disch := first | omega | (simp only [sizeAlloc, sizeDrew, sizeSet, sizePut] <;> omega) | fail) only [GS1, GS2, GS3, GS4, GS5, GS6, GS7, GS8, GS9, GS10, GS11, TT_eq, TTl, Nat.reduceAdd, Nat.reduceMul, Nat.reduceSub, Nat.reduceDiv, Nat.reduceMod, Nat.reducePow, Nat.reduceEqDiff, ↓reduceIte, reduceCtorEq, true_and, and_true, and_self, false_and, and_false, Int.reduceToNat, Int.reduceAdd, Int.reduceSub, Int.reduceMul, cond_true, cond_false, List.toList_toArray, Option.map_some, Option.map_none, Option.some.injEq, List.cons_append, List.nil_append, List.length_cons, List.length_nil, List.getD_cons_zero, List.getD_cons_succ, F.ca, f1]
    refine ⟨fok48, rKind_cps _ (hok _ ha) _ _ fun w2 hM2 => .inl ⟨_, rfl, hold_ops okT (rs := [.tmp 6, .tmp 7]) rfl ?_⟩⟩
    have F := F.mod hM2
    have hM := hM.trans hM2 (by simp)
    have f1 := cellMod hM2 f1
    have hk6 : kindS (atL l x.a) ≤ 6 := by unfold kindS; split; exact kC_le _; omega
    simp (config := { maxSteps := 1000000 }) (disch := first | omega | (simp only [sizeAlloc, sizeDrew, sizeSet, sizePut] <;> omega) | fail) only [GS1, GS2, GS3, GS4, GS5, GS6, GS7, GS8, GS9, GS10, GS11, TT_eq, TTl, Nat.reduceAdd, Nat.reduceMul, Nat.reduceSub, Nat.reduceDiv, Nat.reduceMod, Nat.reducePow, Nat.reduceEqDiff, ↓reduceIte, reduceCtorEq, true_and, and_true, and_self, false_and, and_false, Int.reduceToNat, Int.reduceAdd, Int.reduceSub, Int.reduceMul, cond_true, cond_false, List.toList_toArray, Option.map_some, Option.map_none, Option.some.injEq, List.cons_append, List.nil_append, List.length_cons, List.length_nil, List.getD_cons_zero, List.getD_cons_succ, F.ca, f1]
    refine ⟨fok49, rParts_cps _ (hok _ ha) _ _ fun pv w3 hown hM3 => .inl ⟨_, rfl, hold_ops okT (rs := [.tmp 6, .tmp 7]) rfl ?_⟩⟩
    have F := F.mod hM3
    have hM := hM.trans hM3 (by simp)
    have hrp := Rd.own hown
    have hpl : (partsS (atL l x.a)).length ≤ 16384 := by
      have h1 := partsS_len (atL l x.a)
      have h2 := hlen _ ha
      omega
    unfold bodyD at hX
    by_cases hk : kindS (atL l x.a) = 6
    · rw [if_pos hk] at hX
      have hp3 : (partsD l x).length = 3 := by
        have ho := opens_plain (hok _ ha)
        rcases ho with ⟨g, _⟩ | ⟨g, _⟩ | ⟨g, _⟩ | ⟨g, _⟩ | ⟨g, _⟩ | ⟨_, _, a, b, c, g, _⟩ <;> first | (rw [hk] at g; exact absurd g (by decide)) | (unfold partsD; rw [g]; rfl)
      have hp3' : (partsS (atL l x.a)).length = 3 := hp3
      obtain ⟨b2, o2, c2, e2, f0⟩ := rdAt rfl hrp (i := 0) (by omega) (by omega)
      obtain ⟨b3, o3, c3, e3, f2⟩ := rdAt rfl hrp (i := 2) (by omega) (by omega)
      subst e2
      have f0 : w3.cell? ⟨b2, o2, none⟩ = some (.string ⟨(atL (partsD l x) 0).toArray⟩) := f0
      have f2 : w3.cell? ⟨b3, o3 + 2, none⟩ = some (.string ⟨(atL (partsD l x) 2).toArray⟩) := f2
      rw [Value.slice.injEq] at e3
      obtain ⟨e3', -, -⟩ := e3
      simp only [Option.some.injEq, Addr.mk.injEq, and_true] at e3'
      obtain ⟨rfl, rfl⟩ := e3'
      obtain ⟨b4, o4, c4, e4, f4⟩ := rdAt rfl F.rl hb.1 hb.2
      rw [Value.slice.injEq] at e4
      obtain ⟨e4', -, -⟩ := e4
      simp only [Option.some.injEq, Addr.mk.injEq, and_true] at e4'
      obtain ⟨rfl, rfl⟩ := e4'
      by_cases hq : atL (partsD l x) 0 = atL l x.b
      · rw [if_pos hq] at hX
        subst hX
        simp (config := { maxSteps := 1000000 }) (disch := first | omega | (simp only [sizeAlloc, sizeDrew, sizeSet, sizePut] <;> omega) | fail) only [GS1, GS2, GS3, GS4, GS5, GS6, GS7, GS8, GS9, GS10, GS11, TT_eq, TTl, Nat.reduceAdd, Nat.reduceMul, Nat.reduceSub, Nat.reduceDiv, Nat.reduceMod, Nat.reducePow, Nat.reduceEqDiff, ↓reduceIte, reduceCtorEq, true_and, and_true, and_self, false_and, and_false, Int.reduceToNat, Int.reduceAdd, Int.reduceSub, Int.reduceMul, cond_true, cond_false, List.toList_toArray, Option.map_some, Option.map_none, Option.some.injEq, List.cons_append, List.nil_append, List.length_cons, List.length_nil, List.getD_cons_zero, List.getD_cons_succ, F.cd, F.cb, f0, f4, hq, f2, eq_self]
        refine ⟨by kernel_rfl, fun m => ?_⟩
        exact hR _ (hM.drewN m)
      · rw [if_neg hq] at hX
        subst hX
        simp (config := { maxSteps := 1000000 }) (disch := first | omega | (simp only [sizeAlloc, sizeDrew, sizeSet, sizePut] <;> omega) | fail) only [GS1, GS2, GS3, GS4, GS5, GS6, GS7, GS8, GS9, GS10, GS11, TT_eq, TTl, Nat.reduceAdd, Nat.reduceMul, Nat.reduceSub, Nat.reduceDiv, Nat.reduceMod, Nat.reducePow, Nat.reduceEqDiff, ↓reduceIte, reduceCtorEq, true_and, and_true, and_self, false_and, and_false, Int.reduceToNat, Int.reduceAdd, Int.reduceSub, Int.reduceMul, cond_true, cond_false, List.toList_toArray, Option.map_some, Option.map_none, Option.some.injEq, List.cons_append, List.nil_append, List.length_cons, List.length_nil, List.getD_cons_zero, List.getD_cons_succ, F.cd, F.cb, f0, f4, hq]
        refine ⟨by kernel_rfl, fun m => ?_⟩
        exact hR _ (hM.drewN m)
    · rw [if_neg hk] at hX
      subst hX
      simp (config := { maxSteps := 1000000 }) (disch := first | omega | (simp only [sizeAlloc, sizeDrew, sizeSet, sizePut] <;> omega) | fail) only [GS1, GS2, GS3, GS4, GS5, GS6, GS7, GS8, GS9, GS10, GS11, TT_eq, TTl, Nat.reduceAdd, Nat.reduceMul, Nat.reduceSub, Nat.reduceDiv, Nat.reduceMod, Nat.reducePow, Nat.reduceEqDiff, ↓reduceIte, reduceCtorEq, true_and, and_true, and_self, false_and, and_false, Int.reduceToNat, Int.reduceAdd, Int.reduceSub, Int.reduceMul, cond_true, cond_false, List.toList_toArray, Option.map_some, Option.map_none, Option.some.injEq, List.cons_append, List.nil_append, List.length_cons, List.length_nil, List.getD_cons_zero, List.getD_cons_succ, F.cd]
      exact hR _ hM
  · simp (config := { maxSteps := 1000000 }) (disch := first | omega | (simp only [sizeAlloc, sizeDrew, sizeSet, sizePut] <;> omega) | fail) only [GS1, GS2, GS3, GS4, GS5, GS6, GS7, GS8, GS9, GS10, GS11, TT_eq, TTl, Nat.reduceAdd, Nat.reduceMul, Nat.reduceSub, Nat.reduceDiv, Nat.reduceMod, Nat.reducePow, Nat.reduceEqDiff, ↓reduceIte, reduceCtorEq, true_and, and_true, and_self, false_and, and_false, Int.reduceToNat, Int.reduceAdd, Int.reduceSub, Int.reduceMul, cond_true, cond_false, List.toList_toArray, Option.map_some, Option.map_none, Option.some.injEq, List.cons_append, List.nil_append, List.length_cons, List.length_nil, List.getD_cons_zero, List.getD_cons_succ, F.cd, F.cl]
    refine ⟨fok44, rRow11_cps _ l x _ _ F.rl hl ll F.inp hv fun w2 hM2 => .inl ⟨_, rfl, hold_ops okT (rs := [.tmp 6, .tmp 7]) rfl ?_⟩⟩
    rw [← hX]
    obtain ⟨t, e⟩ := X
    unfold stV
    simp (config := { maxSteps := 1000000 }) (disch := first | omega | (simp only [sizeAlloc, sizeDrew, sizeSet, sizePut] <;> omega) | fail) only [GS1, GS2, GS3, GS4, GS5, GS6, GS7, GS8, GS9, GS10, GS11, TT_eq, TTl, Nat.reduceAdd, Nat.reduceMul, Nat.reduceSub, Nat.reduceDiv, Nat.reduceMod, Nat.reducePow, Nat.reduceEqDiff, ↓reduceIte, reduceCtorEq, true_and, and_true, and_self, false_and, and_false, Int.reduceToNat, Int.reduceAdd, Int.reduceSub, Int.reduceMul, cond_true, cond_false, List.toList_toArray, Option.map_some, Option.map_none, Option.some.injEq, List.cons_append, List.nil_append, List.length_cons, List.length_nil, List.getD_cons_zero, List.getD_cons_succ]
    exact hR _ (hM.trans hM2 (by simp))
  · obtain ⟨ha0, ha1⟩ := id ha
    simp (config := { maxSteps := 1000000 }) (disch := first | omega | (simp only [sizeAlloc, sizeDrew, sizeSet, sizePut] <;> omega) | fail) only [GS1, GS2, GS3, GS4, GS5, GS6, GS7, GS8, GS9, GS10, GS11, TT_eq, TTl, Nat.reduceAdd, Nat.reduceMul, Nat.reduceSub, Nat.reduceDiv, Nat.reduceMod, Nat.reducePow, Nat.reduceEqDiff, ↓reduceIte, reduceCtorEq, true_and, and_true, and_self, false_and, and_false, Int.reduceToNat, Int.reduceAdd, Int.reduceSub, Int.reduceMul, cond_true, cond_false, List.toList_toArray, Option.map_some, Option.map_none, Option.some.injEq, List.cons_append, List.nil_append, List.length_cons, List.length_nil, List.getD_cons_zero, List.getD_cons_succ, F.cd]
    obtain ⟨b1, o1, c1, e1, f1⟩ := rdAt rfl F.rl ha.1 ha.2
    rw [Value.slice.injEq] at e1
    obtain ⟨rfl, -, -⟩ := e1
    simp (config := { maxSteps := 1000000 }) (disch := first | omega | (simp only [sizeAlloc, sizeDrew, sizeSet, sizePut] <;> omega) | fail) only [GS1, GS2, GS3, GS4, GS5, GS6, GS7, GS8, GS9, GS10, GS11, TT_eq, TTl, Nat.reduceAdd, Nat.reduceMul, Nat.reduceSub, Nat.reduceDiv, Nat.reduceMod, Nat.reducePow, Nat.reduceEqDiff, ↓reduceIte, reduceCtorEq, true_and, and_true, and_self, false_and, and_false, Int.reduceToNat, Int.reduceAdd, Int.reduceSub, Int.reduceMul, cond_true, cond_false, List.toList_toArray, Option.map_some, Option.map_none, Option.some.injEq, List.cons_append, List.nil_append, List.length_cons, List.length_nil, List.getD_cons_zero, List.getD_cons_succ, F.ca, f1]
    refine ⟨fok45, rHash_cps _ (by have := hlen _ ha; omega) _ _ fun w2 hM2 => .inl ⟨_, rfl, hold_ops okT (rs := [.tmp 6, .tmp 7]) rfl ?_⟩⟩
    rw [← hX]
    obtain ⟨t, e⟩ := X
    unfold stV
    simp (config := { maxSteps := 1000000 }) (disch := first | omega | (simp only [sizeAlloc, sizeDrew, sizeSet, sizePut] <;> omega) | fail) only [GS1, GS2, GS3, GS4, GS5, GS6, GS7, GS8, GS9, GS10, GS11, TT_eq, TTl, Nat.reduceAdd, Nat.reduceMul, Nat.reduceSub, Nat.reduceDiv, Nat.reduceMod, Nat.reducePow, Nat.reduceEqDiff, ↓reduceIte, reduceCtorEq, true_and, and_true, and_self, false_and, and_false, Int.reduceToNat, Int.reduceAdd, Int.reduceSub, Int.reduceMul, cond_true, cond_false, List.toList_toArray, Option.map_some, Option.map_none, Option.some.injEq, List.cons_append, List.nil_append, List.length_cons, List.length_nil, List.getD_cons_zero, List.getD_cons_succ]
    exact hR _ (hM.trans hM2 (by simp))
  · obtain ⟨ha0, ha1⟩ := id ha
    obtain ⟨hb0, hb1⟩ := id hb
    simp (config := { maxSteps := 1000000 }) (disch := first | omega | (simp only [sizeAlloc, sizeDrew, sizeSet, sizePut] <;> omega) | fail) only [GS1, GS2, GS3, GS4, GS5, GS6, GS7, GS8, GS9, GS10, GS11, TT_eq, TTl, Nat.reduceAdd, Nat.reduceMul, Nat.reduceSub, Nat.reduceDiv, Nat.reduceMod, Nat.reducePow, Nat.reduceEqDiff, ↓reduceIte, reduceCtorEq, true_and, and_true, and_self, false_and, and_false, Int.reduceToNat, Int.reduceAdd, Int.reduceSub, Int.reduceMul, cond_true, cond_false, List.toList_toArray, Option.map_some, Option.map_none, Option.some.injEq, List.cons_append, List.nil_append, List.length_cons, List.length_nil, List.getD_cons_zero, List.getD_cons_succ, F.cd]
    refine hold_draw okT (rs := [.tmp 6, .tmp 7]) rfl [0, 0, 2, 7, 15, 0, 0, 64, 224, 480, 1023, 2047, 2047, 8191, 16383] [0, 1, 2, 3, 4, 5, 6, 7, 8, 9, 10, 11, 12, 13, 14] (by kernel_rfl) (by kernel_rfl) ?_
    have F := F.mod (Mod.drewN 1 (Mod.refl [] _))
    have hM := hM.drewN 1
    generalize World.drewN _ 1 = w0 at F hM ⊢
    obtain ⟨b1, o1, c1, e1, f1⟩ := rdAt rfl F.rl ha.1 ha.2
    rw [Value.slice.injEq] at e1
    obtain ⟨rfl, -, -⟩ := e1
    obtain ⟨b2, o2, c2, e2, f2⟩ := rdAt rfl F.rl hb.1 hb.2
    rw [Value.slice.injEq] at e2
    obtain ⟨e2', -, -⟩ := e2
    simp only [Option.some.injEq, Addr.mk.injEq, and_true] at e2'
    obtain ⟨rfl, rfl⟩ := e2'
    simp (config := { maxSteps := 1000000 }) (disch := first | omega | (simp only [sizeAlloc, sizeDrew, sizeSet, sizePut] <;> omega) | fail) only [GS1, GS2, GS3, GS4, GS5, GS6, GS7, GS8, GS9, GS10, GS11, TT_eq, TTl, Nat.reduceAdd, Nat.reduceMul, Nat.reduceSub, Nat.reduceDiv, Nat.reduceMod, Nat.reducePow, Nat.reduceEqDiff, ↓reduceIte, reduceCtorEq, true_and, and_true, and_self, false_and, and_false, Int.reduceToNat, Int.reduceAdd, Int.reduceSub, Int.reduceMul, cond_true, cond_false, List.toList_toArray, Option.map_some, Option.map_none, Option.some.injEq, List.cons_append, List.nil_append, List.length_cons, List.length_nil, List.getD_cons_zero, List.getD_cons_succ, F.ca, f1, F.cb, f2]
    refine ⟨fok46, rMac_cps _ _ (by have := hlen _ ha; omega) (by have := hlen _ hb; omega) _ _ fun w2 hM2 => .inl ⟨_, rfl, hold_dops okT (rs := [.tmp 6, .tmp 7]) rfl ?_⟩⟩
    rw [← hX]
    obtain ⟨t, e⟩ := X
    unfold stV
    simp (config := { maxSteps := 1000000 }) (disch := first | omega | (simp only [sizeAlloc, sizeDrew, sizeSet, sizePut] <;> omega) | fail) only [GS1, GS2, GS3, GS4, GS5, GS6, GS7, GS8, GS9, GS10, GS11, TT_eq, TTl, Nat.reduceAdd, Nat.reduceMul, Nat.reduceSub, Nat.reduceDiv, Nat.reduceMod, Nat.reducePow, Nat.reduceEqDiff, ↓reduceIte, reduceCtorEq, true_and, and_true, and_self, false_and, and_false, Int.reduceToNat, Int.reduceAdd, Int.reduceSub, Int.reduceMul, cond_true, cond_false, List.toList_toArray, Option.map_some, Option.map_none, Option.some.injEq, List.cons_append, List.nil_append, List.length_cons, List.length_nil, List.getD_cons_zero, List.getD_cons_succ]
    exact hR _ (hM.trans hM2 (by simp))
  · obtain ⟨ha0, ha1⟩ := id ha
    obtain ⟨hb0, hb1⟩ := id hb
    obtain ⟨hc0, hc1⟩ := id hc
    simp (config := { maxSteps := 1000000 }) (disch := first | omega | (simp only [sizeAlloc, sizeDrew, sizeSet, sizePut] <;> omega) | fail) only [GS1, GS2, GS3, GS4, GS5, GS6, GS7, GS8, GS9, GS10, GS11, TT_eq, TTl, Nat.reduceAdd, Nat.reduceMul, Nat.reduceSub, Nat.reduceDiv, Nat.reduceMod, Nat.reducePow, Nat.reduceEqDiff, ↓reduceIte, reduceCtorEq, true_and, and_true, and_self, false_and, and_false, Int.reduceToNat, Int.reduceAdd, Int.reduceSub, Int.reduceMul, cond_true, cond_false, List.toList_toArray, Option.map_some, Option.map_none, Option.some.injEq, List.cons_append, List.nil_append, List.length_cons, List.length_nil, List.getD_cons_zero, List.getD_cons_succ, F.cd]
    refine hold_draw okT (rs := [.tmp 6, .tmp 7]) rfl [0, 0, 2, 7, 15, 0, 0, 64, 224, 480, 0, 0, 2048, 7168, 15360, 32767, 65535, 65535, 262143, 524287] [0, 1, 2, 3, 4, 5, 6, 7, 8, 9, 10, 11, 12, 13, 14, 15, 16, 17, 18, 19] (by kernel_rfl) (by kernel_rfl) ?_
    have F := F.mod (Mod.drewN 1 (Mod.refl [] _))
    have hM := hM.drewN 1
    generalize World.drewN _ 1 = w0 at F hM ⊢
    obtain ⟨b1, o1, c1, e1, f1⟩ := rdAt rfl F.rl ha.1 ha.2
    rw [Value.slice.injEq] at e1
    obtain ⟨rfl, -, -⟩ := e1
    obtain ⟨b2, o2, c2, e2, f2⟩ := rdAt rfl F.rl hb.1 hb.2
    rw [Value.slice.injEq] at e2
    obtain ⟨e2', -, -⟩ := e2
    simp only [Option.some.injEq, Addr.mk.injEq, and_true] at e2'
    obtain ⟨rfl, rfl⟩ := e2'
    obtain ⟨b3, o3, c3, e3, f3⟩ := rdAt rfl F.rl hc.1 hc.2
    rw [Value.slice.injEq] at e3
    obtain ⟨e3', -, -⟩ := e3
    simp only [Option.some.injEq, Addr.mk.injEq, and_true] at e3'
    obtain ⟨rfl, rfl⟩ := e3'
    simp (config := { maxSteps := 1000000 }) (disch := first | omega | (simp only [sizeAlloc, sizeDrew, sizeSet, sizePut] <;> omega) | fail) only [GS1, GS2, GS3, GS4, GS5, GS6, GS7, GS8, GS9, GS10, GS11, TT_eq, TTl, Nat.reduceAdd, Nat.reduceMul, Nat.reduceSub, Nat.reduceDiv, Nat.reduceMod, Nat.reducePow, Nat.reduceEqDiff, ↓reduceIte, reduceCtorEq, true_and, and_true, and_self, false_and, and_false, Int.reduceToNat, Int.reduceAdd, Int.reduceSub, Int.reduceMul, cond_true, cond_false, List.toList_toArray, Option.map_some, Option.map_none, Option.some.injEq, List.cons_append, List.nil_append, List.length_cons, List.length_nil, List.getD_cons_zero, List.getD_cons_succ, F.ca, f1, F.cb, f2, F.cc, f3]
    refine ⟨fok47, rSeal_cps _ _ _ (by have := hlen _ ha; omega) (by have := hlen _ hb; omega) (by have := hlen _ hc; omega) _ _ fun w2 hM2 => .inl ⟨_, rfl, hold_dops okT (rs := [.tmp 6, .tmp 7]) rfl ?_⟩⟩
    rw [← hX]
    obtain ⟨t, e⟩ := X
    unfold stV
    simp (config := { maxSteps := 1000000 }) (disch := first | omega | (simp only [sizeAlloc, sizeDrew, sizeSet, sizePut] <;> omega) | fail) only [GS1, GS2, GS3, GS4, GS5, GS6, GS7, GS8, GS9, GS10, GS11, TT_eq, TTl, Nat.reduceAdd, Nat.reduceMul, Nat.reduceSub, Nat.reduceDiv, Nat.reduceMod, Nat.reducePow, Nat.reduceEqDiff, ↓reduceIte, reduceCtorEq, true_and, and_true, and_self, false_and, and_false, Int.reduceToNat, Int.reduceAdd, Int.reduceSub, Int.reduceMul, cond_true, cond_false, List.toList_toArray, Option.map_some, Option.map_none, Option.some.injEq, List.cons_append, List.nil_append, List.length_cons, List.length_nil, List.getD_cons_zero, List.getD_cons_succ]
    exact hR _ (hM.trans hM2 (by simp))
end Go.Proofs.Yticoollhaachfaa
