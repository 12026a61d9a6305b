/-
  What the reference says of a term: Kind, Parts (walks).
-/
import Derived.Test.YtgopgonkchlkfaaKtB5
set_option linter.unusedSimpArgs false
set_option linter.unusedVariables false
set_option maxRecDepth 20000
namespace Go.Proofs.Ytgopgonkchlkfaa
open Go Go.Wk Go.RowKit
attribute [local irreducible] go Hold
open Go.Lib
theorem walk_root (S : List UInt8) {h : List UInt8} {k : Fr} {p : Nat} {rest : List UInt8} (h1 : Hd h (cntF k)) (h2 : okF k) (h3 : hgtF k ≤ 15) (hr : S.drop p = h ++ encF k ++ rest) : (walkS S 16 1 p).1 = p + (h ++ encF k).length ∧ (walkS S 16 1 p).2.1 = 0 := by
  have := walk_of S (.cons h k .nil) 16 1 p ⟨h1, h2, trivial⟩ (by simp only [hgtF]; omega) ⟨rest, by simp only [encF, List.append_nil]; exact hr⟩
  simp only [cntF, kidsW, encF, endF, List.append_nil] at this
  by_cases h0 : (walkS S 16 1 p).2.1 = 0
  · rw [if_pos h0] at this
    simp only [Prod.mk.injEq] at this
    exact ⟨this.1, h0⟩
  · rw [if_neg h0] at this
    simp only [Prod.mk.injEq] at this
    exact absurd this.2.1 h0
set_option maxRecDepth 20000 in
set_option maxHeartbeats 8000000 in
theorem rparts_cps {S h : List UInt8} {k : Fr} (t : Tr S h k) (w : World) (R : Ending → World → Prop) (hR : ∀ sv w', w'.ownsRow w.heap.size 9 1 sv (rootsF k).length ((rootsF k).map strV) → Mod [] w w' → R (.returned sv) w') :
    Calls Try.prog 120 #[.string ⟨S.toArray⟩] w R := by
  have hSl := t.2.2.2.2
  have hS : S.length ≤ maxLen := by unfold maxLen; omega
  have hf := front_of t.2.1 (encF k)
  rw [← t.1] at hf
  have hk32 := (frontS_len hf).2.2
  have hhl := (frontS_len hf).1
  refine calls_go 4000 okT Try.func120 rfl (rs := [.tmp 2]) rfl Try.ntmps120 (args := [.string ⟨S.toArray⟩]) ?_
  simp (maxSteps := 1000000) (disch := first | omega | (simp only [sizeAlloc, sizeDrew, sizeSet, sizePut] <;> omega) | fail) only [GS, TT_eq, TTl, Nat.reduceAdd, Nat.reduceMul, Nat.reduceSub, Nat.reduceDiv, Nat.reduceMod, Nat.reducePow, Nat.reduceEqDiff, ↓reduceIte, reduceCtorEq, Int.reduceToNat, Int.reduceAdd, Int.reduceSub, Int.reduceMul]
  refine ⟨fok147, rHead_cps S hS _ _ fun w1 hM1 => .inl ⟨_, rfl, hold_ops okT (rs := [.tmp 2]) rfl ?_⟩⟩
  rw [hf]
  unfold frV
  simp (maxSteps := 1000000) (disch := first | omega | (simp only [sizeAlloc, sizeDrew, sizeSet, sizePut] <;> omega) | fail) only [GS, TT_eq, TTl, Nat.reduceAdd, Nat.reduceMul, Nat.reduceSub, Nat.reduceDiv, Nat.reduceMod, Nat.reducePow, Nat.reduceEqDiff, ↓reduceIte, reduceCtorEq, Int.reduceToNat, Int.reduceAdd, Int.reduceSub, Int.reduceMul]
  refine hold_loop okT (rs := [.tmp 2]) rfl [3, 6, 7] [8, 9, 16, 17, 18, 19, 20, 21, 22, 23, 24, 25, 26, 27, 28, 29, 30, 31, 32, 33, 34, 35, 36, 37, 38, 39] (fun vs w' => ∃ (j p : Nat) (F : Fr) (l : List (List UInt8)) (pv : Value), vs = [.int .i64 p, pv, .int .i64 j] ∧ j + cntF F = cntF k ∧ l.length = j ∧ okF F ∧ hgtF F ≤ 15 ∧ S.drop p = encF F ∧ p ≤ S.length ∧ l ++ rootsF F = rootsF k ∧ w'.ownsRow w.heap.size 9 1 pv l.length (l.map strV) ∧ Mod [] w w') (fun vs _ => match vs with | [_, _, .int _ i] => cntF k - i.toNat | _ => 0) (by kernel_rfl)
    ⟨0, h.length, k, [], _, rfl, by omega, rfl, t.2.2.1, t.2.2.2.1, by rw [t.1, List.drop_left], hhl, rfl, World.ownsRow_nil _ _ _ _, hM1⟩ ?_
  rintro vs w2 J ⟨j, p, F, l, pv, rfl, hj, hl, hok, hh, hd, hp, hro, hown, hM2⟩
  cases F with
  | nil =>
    simp only [cntF, Nat.add_zero] at hj
    subst hj
    simp only [rootsF, List.append_nil] at hro
    subst hro
    simp (maxSteps := 1000000) (disch := first | omega | (simp only [sizeAlloc, sizeDrew, sizeSet, sizePut] <;> omega) | fail) only [GS, TT_eq, TTl, Nat.reduceAdd, Nat.reduceMul, Nat.reduceSub, Nat.reduceDiv, Nat.reduceMod, Nat.reducePow, Nat.reduceEqDiff, ↓reduceIte, reduceCtorEq, Int.reduceToNat, Int.reduceAdd, Int.reduceSub, Int.reduceMul]
    exact hR _ _ hown hM2
  | cons h' k' r =>
    simp only [cntF] at hj
    simp only [hgtF] at hh
    simp only [encF] at hd
    simp only [rootsF] at hro
    obtain ⟨o1, o2, o3⟩ := hok
    have hlt : j < cntF k := by omega
    obtain ⟨q1, q2⟩ := walk_root S o1 o2 (by omega) hd
    have hln := congrArg List.length hd
    simp only [List.length_drop, List.length_append] at hln
    have hcut : List.drop p (List.take (p + (h' ++ encF k').length) S) = h' ++ encF k' := by
      rw [List.drop_take, hd, Nat.add_sub_cancel_left, List.take_left]
    have hcl := ownsRow_one hown
    have hcnt : cntF k ≤ 32 := hk32
    simp (maxSteps := 1000000) (disch := first | omega | (simp only [sizeAlloc, sizeDrew, sizeSet, sizePut] <;> omega) | fail) only [GS, TT_eq, TTl, Nat.reduceAdd, Nat.reduceMul, Nat.reduceSub, Nat.reduceDiv, Nat.reduceMod, Nat.reducePow, Nat.reduceEqDiff, ↓reduceIte, reduceCtorEq, Int.reduceToNat, Int.reduceAdd, Int.reduceSub, Int.reduceMul]
    refine ⟨fok146, rRead_cps S hS 16 1 p _ _ (by omega) hp fun w3 hM3 => .inl ⟨_, rfl, hold_ops okT (rs := [.tmp 2]) rfl ?_⟩⟩
    have hown3 := ownsRow_mod hown hM3 (by simp)
    have hM03 := hM2.trans hM3 (by simp)
    unfold rdV
    rw [q2, if_pos rfl, q1, Nat.add_sub_cancel_left]
    have hL : (h' ++ encF k').length ≤ S.length - p := by rw [List.length_append]; omega
    have hdr : List.drop (p + (h' ++ encF k').length) S = encF r := by rw [← List.drop_drop, hd, List.drop_left]
    generalize h' ++ encF k' = s at *
    have e5 : (p : Int) + (s.length : Nat) = ((p + s.length : Nat) : Int) := by omega
    have hb0 := hM03.size
    simp (maxSteps := 1000000) (disch := first | omega | (simp only [sizeAlloc, sizeDrew, sizeSet, sizePut] <;> omega) | fail) only [GS, TT_eq, TTl, Nat.reduceAdd, Nat.reduceMul, Nat.reduceSub, Nat.reduceDiv, Nat.reduceMod, Nat.reducePow, Nat.reduceEqDiff, ↓reduceIte, reduceCtorEq, Int.reduceToNat, Int.reduceAdd, Int.reduceSub, Int.reduceMul, e5, hcut]
    refine hold_append1 okT rfl rfl rfl rfl rfl w.heap.size hown3 rfl rfl (u := .string ⟨s.toArray⟩) rfl (by simp only; omega) (by unfold maxLen; omega) hb0 fun v' w4 hown4 hM4 _ => hold_ops okT (rs := [.tmp 2]) rfl ?_
    simp (maxSteps := 1000000) (disch := first | omega | (simp only [sizeAlloc, sizeDrew, sizeSet, sizePut] <;> omega) | fail) only [GS, TT_eq, TTl, Nat.reduceAdd, Nat.reduceMul, Nat.reduceSub, Nat.reduceDiv, Nat.reduceMod, Nat.reducePow, Nat.reduceEqDiff, ↓reduceIte, reduceCtorEq, Int.reduceToNat, Int.reduceAdd, Int.reduceSub, Int.reduceMul, e5]
    refine ⟨⟨j + 1, p + s.length, r, l ++ [s], v', rfl, by omega, by rw [List.length_append]; simp; omega, o3, by omega, hdr, by omega, by rw [List.append_assoc]; exact hro, ?_, hM03.trans hM4 (fun y hy => .inr (hown3.lt y (by simpa using hy)).1)⟩, by omega⟩
    rw [List.length_append, List.map_append]
    exact hown4
theorem rParts_cps (S : List UInt8) (hS : checkS S = 0) (w : World) (R : Ending → World → Prop) (hR : ∀ sv w', w'.ownsRow w.heap.size 9 1 sv (partsS S).length ((partsS S).map strV) → Mod [] w w' → R (.returned (.tuple #[sv, .bool true])) w') :
    Calls Try.prog 101 #[.string ⟨S.toArray⟩] w R := by
  obtain ⟨h, k, t⟩ := tr_of hS
  have hSl := t.2.2.2.2
  rw [t.parts] at hR
  refine calls_go 4000 okT Try.func101 rfl (rs := [.tmp 2, .tmp 3]) rfl Try.ntmps101 (args := [.string ⟨S.toArray⟩]) ?_
  simp (maxSteps := 1000000) (disch := first | omega | (simp only [sizeAlloc, sizeDrew, sizeSet, sizePut] <;> omega) | fail) only [GS, TT_eq, TTl, Nat.reduceAdd, Nat.reduceMul, Nat.reduceSub, Nat.reduceDiv, Nat.reduceMod, Nat.reducePow, Nat.reduceEqDiff, ↓reduceIte, reduceCtorEq, Int.reduceToNat, Int.reduceAdd, Int.reduceSub, Int.reduceMul]
  refine ⟨fok73, rMay_cps S (by unfold maxLen; omega) _ _ fun w1 hM1 => .inl ⟨_, rfl, hold_ops okT (rs := [.tmp 2, .tmp 3]) rfl ?_⟩⟩
  rw [decide_eq_true hS]
  simp (maxSteps := 1000000) (disch := first | omega | (simp only [sizeAlloc, sizeDrew, sizeSet, sizePut] <;> omega) | fail) only [GS, TT_eq, TTl, Nat.reduceAdd, Nat.reduceMul, Nat.reduceSub, Nat.reduceDiv, Nat.reduceMod, Nat.reducePow, Nat.reduceEqDiff, ↓reduceIte, reduceCtorEq, Int.reduceToNat, Int.reduceAdd, Int.reduceSub, Int.reduceMul]
  refine ⟨fok120, rparts_cps t _ _ fun sv w2 hown hM2 => .inl ⟨_, rfl, hold_ops okT (rs := [.tmp 2, .tmp 3]) rfl ?_⟩⟩
  simp (maxSteps := 1000000) (disch := first | omega | (simp only [sizeAlloc, sizeDrew, sizeSet, sizePut] <;> omega) | fail) only [GS, TT_eq, TTl, Nat.reduceAdd, Nat.reduceMul, Nat.reduceSub, Nat.reduceDiv, Nat.reduceMod, Nat.reducePow, Nat.reduceEqDiff, ↓reduceIte, reduceCtorEq, Int.reduceToNat, Int.reduceAdd, Int.reduceSub, Int.reduceMul]
  exact hR _ _ (ownsRow_base hown hM1.size) (hM1.trans hM2 (by simp))
set_option maxHeartbeats 2000000 in
theorem rKind_cps (S : List UInt8) (hS : checkS S = 0) (w : World) (R : Ending → World → Prop) (hR : ∀ w', Mod [] w w' → R (.returned (.int .u8 (kindS S))) w') :
    Calls Try.prog 102 #[.string ⟨S.toArray⟩] w R := by
  obtain ⟨h, k, t⟩ := tr_of hS
  have hSl := t.2.2.2.2
  refine calls_go 4000 okT Try.func102 rfl (rs := [.tmp 2]) rfl Try.ntmps102 (args := [.string ⟨S.toArray⟩]) ?_
  simp (maxSteps := 1000000) (disch := first | omega | (simp only [sizeAlloc, sizeDrew, sizeSet, sizePut] <;> omega) | fail) only [GS, TT_eq, TTl, Nat.reduceAdd, Nat.reduceMul, Nat.reduceSub, Nat.reduceDiv, Nat.reduceMod, Nat.reducePow, Nat.reduceEqDiff, ↓reduceIte, reduceCtorEq, Int.reduceToNat, Int.reduceAdd, Int.reduceSub, Int.reduceMul]
  refine ⟨fok73, rMay_cps S (by unfold maxLen; omega) _ _ fun w1 hM1 => .inl ⟨_, rfl, hold_ops okT (rs := [.tmp 2]) rfl ?_⟩⟩
  rw [decide_eq_true hS]
  have hR := hR _ hM1
  unfold kindS at hR
  rw [if_pos hS] at hR
  have e := t.1
  have hd := t.2.1
  cases S with
  | nil => exact absurd hS checkS_nil
  | cons c r =>
    have hc : c = 100 ∨ c = 97 ∨ c = 114 ∨ c = 104 ∨ c = 109 ∨ c = 115 := by
      rcases hd with ⟨_, x, _, g⟩ | ⟨_, x, _, _, g⟩ | ⟨_, g⟩ | ⟨_, g⟩ | ⟨_, g⟩ | ⟨_, g⟩ <;> (rw [g] at e; simp only [List.cons_append, List.cons.injEq] at e; simp [e.1])
    clear e hd t
    rcases hc with h | h | h | h | h | h
    · have hn : c.toNat = 100 := by rw [h]; rfl
      simp (maxSteps := 1000000) (disch := first | omega | (simp only [sizeAlloc, sizeDrew, sizeSet, sizePut] <;> omega) | fail) only [GS, TT_eq, TTl, Nat.reduceAdd, Nat.reduceMul, Nat.reduceSub, Nat.reduceDiv, Nat.reduceMod, Nat.reducePow, Nat.reduceEqDiff, ↓reduceIte, reduceCtorEq, Int.reduceToNat, Int.reduceAdd, Int.reduceSub, Int.reduceMul]
      rw [h] at hR
      exact hR
    · have hn : c.toNat = 97 := by rw [h]; rfl
      simp (maxSteps := 1000000) (disch := first | omega | (simp only [sizeAlloc, sizeDrew, sizeSet, sizePut] <;> omega) | fail) only [GS, TT_eq, TTl, Nat.reduceAdd, Nat.reduceMul, Nat.reduceSub, Nat.reduceDiv, Nat.reduceMod, Nat.reducePow, Nat.reduceEqDiff, ↓reduceIte, reduceCtorEq, Int.reduceToNat, Int.reduceAdd, Int.reduceSub, Int.reduceMul]
      rw [h] at hR
      exact hR
    · have hn : c.toNat = 114 := by rw [h]; rfl
      simp (maxSteps := 1000000) (disch := first | omega | (simp only [sizeAlloc, sizeDrew, sizeSet, sizePut] <;> omega) | fail) only [GS, TT_eq, TTl, Nat.reduceAdd, Nat.reduceMul, Nat.reduceSub, Nat.reduceDiv, Nat.reduceMod, Nat.reducePow, Nat.reduceEqDiff, ↓reduceIte, reduceCtorEq, Int.reduceToNat, Int.reduceAdd, Int.reduceSub, Int.reduceMul]
      rw [h] at hR
      exact hR
    · have hn : c.toNat = 104 := by rw [h]; rfl
      simp (maxSteps := 1000000) (disch := first | omega | (simp only [sizeAlloc, sizeDrew, sizeSet, sizePut] <;> omega) | fail) only [GS, TT_eq, TTl, Nat.reduceAdd, Nat.reduceMul, Nat.reduceSub, Nat.reduceDiv, Nat.reduceMod, Nat.reducePow, Nat.reduceEqDiff, ↓reduceIte, reduceCtorEq, Int.reduceToNat, Int.reduceAdd, Int.reduceSub, Int.reduceMul]
      rw [h] at hR
      exact hR
    · have hn : c.toNat = 109 := by rw [h]; rfl
      simp (maxSteps := 1000000) (disch := first | omega | (simp only [sizeAlloc, sizeDrew, sizeSet, sizePut] <;> omega) | fail) only [GS, TT_eq, TTl, Nat.reduceAdd, Nat.reduceMul, Nat.reduceSub, Nat.reduceDiv, Nat.reduceMod, Nat.reducePow, Nat.reduceEqDiff, ↓reduceIte, reduceCtorEq, Int.reduceToNat, Int.reduceAdd, Int.reduceSub, Int.reduceMul]
      rw [h] at hR
      exact hR
    · have hn : c.toNat = 115 := by rw [h]; rfl
      simp (maxSteps := 1000000) (disch := first | omega | (simp only [sizeAlloc, sizeDrew, sizeSet, sizePut] <;> omega) | fail) only [GS, TT_eq, TTl, Nat.reduceAdd, Nat.reduceMul, Nat.reduceSub, Nat.reduceDiv, Nat.reduceMod, Nat.reducePow, Nat.reduceEqDiff, ↓reduceIte, reduceCtorEq, Int.reduceToNat, Int.reduceAdd, Int.reduceSub, Int.reduceMul]
      rw [h] at hR
      exact hR
end Go.Proofs.Ytgopgonkchlkfaa
