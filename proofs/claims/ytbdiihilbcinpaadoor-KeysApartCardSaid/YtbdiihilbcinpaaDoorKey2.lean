/-
  What a name says (walks).
-/
import Derived.Test.YtbdiihilbcinpaaDoorKey1
set_option linter.unusedSimpArgs false
set_option linter.unusedVariables false
namespace Go.Proofs.YtbdiihilbcinpaaDoor
open Go Go.Wk Go.RowKit
attribute [local irreducible] go Hold
theorem byte48 {x y : Int} (hx : 0 ≤ x) (hx8 : x < 8) (hy : 0 ≤ y) (hy8 : y < 8) (h : UInt8.ofNat (48 + x).toNat = UInt8.ofNat (48 + y).toNat) : x = y := by
  have := congrArg UInt8.toNat h
  rw [UInt8.toNat_ofNat', UInt8.toNat_ofNat'] at this
  omega
theorem keyL_inj {k k' a b c d : Int} (hk : k = 1 ∨ k = 2) (hk' : k' = 1 ∨ k' = 2) (h1 : pairOk a b) (h2 : pairOk c d) (h : keyL k a b = keyL k' c d) : k = k' ∧ min a b = min c d ∧ max a b = max c d := by
  unfold keyL at h
  simp only [List.cons.injEq, and_true, true_and] at h
  obtain ⟨e1, e2, e3⟩ := h
  obtain ⟨⟨a0, a8⟩, b0, b8⟩ := h1
  obtain ⟨⟨c0, c8⟩, d0, d8⟩ := h2
  refine ⟨?_, byte48 (by omega) (by omega) (by omega) (by omega) e2, byte48 (by omega) (by omega) (by omega) (by omega) e3⟩
  rcases hk with rfl | rfl <;> rcases hk' with rfl | rfl <;> first | rfl | (exact absurd e1 (by decide))
/-- What a name says: its kind, the two, whether it is one. -/
structure RA where
  k : Int
  l : Int
  h : Int
  y : Bool
def raV (x : RA) : Value := .tuple #[.int .u8 x.k, .int .i64 x.l, .int .i64 x.h, .bool x.y]
def RdOk (s : List UInt8) (x : RA) : Prop :=
  (x.y = true ∧ (x.k = 1 ∨ x.k = 2) ∧ 0 ≤ x.l ∧ x.l ≤ x.h ∧ x.h < 8 ∧ s = keyL x.k x.l x.h) ∨
  (x = ⟨0, 0, 0, false⟩ ∧ ∀ k a b : Int, (k = 1 ∨ k = 2) → 0 ≤ a → a ≤ b → b < 8 → s ≠ keyL k a b)
theorem RdOk.uniq {s : List UInt8} {x y : RA} (hx : RdOk s x) (hy : RdOk s y) : x = y := by
  rcases hx with ⟨a1, a2, a3, a4, a5, a6⟩ | ⟨rfl, a⟩ <;> rcases hy with ⟨b1, b2, b3, b4, b5, b6⟩ | ⟨rfl, b⟩
  · obtain ⟨k, l, h, xy⟩ := x
    obtain ⟨k', l', h', yy⟩ := y
    simp only at a1 a2 a3 a4 a5 a6 b1 b2 b3 b4 b5 b6
    obtain ⟨e1, e2, e3⟩ := keyL_inj a2 b2 ⟨⟨by omega, by omega⟩, by omega, by omega⟩ ⟨⟨by omega, by omega⟩, by omega, by omega⟩ (a6.symm.trans b6)
    subst a1 b1
    have : l = l' := by omega
    have : h = h' := by omega
    subst e1; subst l'; subst h'; rfl
  · exact absurd a6 (b _ _ _ a2 a3 a4 a5)
  · exact absurd b6 (a _ _ _ b2 b3 b4 b5)
  · rfl
theorem RdOk.of {k a b : Int} (hk : k = 1 ∨ k = 2) (h0 : 0 ≤ a) (h1 : a ≤ b) (h8 : b < 8) : RdOk (keyL k a b) ⟨k, a, b, true⟩ := .inl ⟨rfl, hk, h0, h1, h8, rfl⟩
theorem list5 {s : List UInt8} (h : s.length = 5) : ∃ a b c d e, s = [a, b, c, d, e] := by
  match s, h with
  | [a, b, c, d, e], _ => exact ⟨a, b, c, d, e, rfl⟩
/-- Of a name of five letters only the two that stand there can be meant. -/
theorem read_only {c0 c1 c2 c3 c4 : UInt8} {k a b : Int} (h0 : 0 ≤ a) (h1 : a ≤ b) (h8 : b < 8) (h : [c0, c1, c2, c3, c4] = keyL k a b) : a = (c2.toNat : Int) - 48 ∧ b = (c4.toNat : Int) - 48 := by
  unfold keyL at h
  simp only [List.cons.injEq, and_true] at h
  obtain ⟨_, _, e2, _, e4⟩ := h
  rw [e2, e4, UInt8.toNat_ofNat', UInt8.toNat_ofNat']
  omega
theorem read_back {c0 c1 c2 c3 c4 : UInt8} {k a b : Int} (ha : a = (c2.toNat : Int) - 48) (hb : b = (c4.toNat : Int) - 48) (hp : pairOk a b) (h : keyL k a b = [c0, c1, c2, c3, c4]) : a ≤ b := by
  unfold keyL at h
  simp only [List.cons.injEq, and_true] at h
  obtain ⟨_, _, e2, _, e4⟩ := h
  have g2 := congrArg UInt8.toNat e2
  have g4 := congrArg UInt8.toNat e4
  rw [UInt8.toNat_ofNat'] at g2 g4
  have := hp.1.1; have := hp.1.2; have := hp.2.1; have := hp.2.2
  omega
set_option maxRecDepth 20000 in
set_option maxHeartbeats 4000000 in
theorem kRead_cps (s : List UInt8) (w : World) (R : Ending → World → Prop) (hs : s.length ≤ maxLen) (hg : KG w) (hR : ∀ w' x, RdOk s x → Mod [] w w' → R (.returned (raV x)) w') :
    Calls Tryd.prog 15 #[.string ⟨s.toArray⟩] w R := by
  unfold maxLen at hs
  by_cases h5 : s.length = 5
  · obtain ⟨c0, c1, c2, c3, c4, rfl⟩ := list5 h5
    clear h5 hs
    have b2 := c2.toNat_lt; have b4 := c4.toNat_lt
    have hw1 : IntKind.i64.wrap (c2.toNat : Int) = c2.toNat := wr_i64 (by omega) (by omega)
    have hw2 : IntKind.i64.wrap (c4.toNat : Int) = c4.toNat := wr_i64 (by omega) (by omega)
    refine calls_go 4000 okT Tryd.func15 rfl (rs := [.tmp 2, .tmp 3, .tmp 4, .tmp 5]) rfl Tryd.ntmps15 (args := [.string ⟨[c0, c1, c2, c3, c4].toArray⟩]) ?_
    simp (config := { maxSteps := 1000000 }) (disch := first | omega | (simp only [sizeAlloc, sizeDrew, sizeSet, sizePut]; omega) | fail) only [GS1, GS2, GS3, GS4, GS5, GS6, GS7, GS8, GS9, GS10, TT_eq, TTl, Nat.reduceAdd, Nat.reduceMul, Nat.reduceSub, Nat.reduceDiv, Nat.reduceMod, Nat.reducePow, Nat.reduceEqDiff, ↓reduceIte, reduceCtorEq, true_and, and_true, and_self, false_and, and_false, Int.reduceToNat, Int.reduceAdd, Int.reduceSub, Int.reduceMul, cond_true, cond_false, List.toList_toArray, Option.map_some, Option.map_none, Option.some.injEq, List.cons_append, List.nil_append, List.length_cons, List.length_nil, List.getD_cons_zero, List.getD_cons_succ]
    refine ⟨by kernel_rfl, fun m => ?_⟩
    generalize ha : (c2.toNat : Int) - 48 = a
    generalize hb : (c4.toNat : Int) - 48 = b
    have hM0 : Mod [] w (w.drewN m) := (Mod.refl _ _).drewN m
    refine hold_loop okT (rs := [.tmp 2, .tmp 3, .tmp 4, .tmp 5]) rfl [3, 4, 6] [2, 5, 7, 8, 20, 21, 22, 23, 24, 25, 26, 27, 28, 29, 30, 31, 32, 33, 34, 35, 36, 37, 38, 39, 40, 41] (fun vs w' => ∃ k : Int, 1 ≤ k ∧ k ≤ 3 ∧ vs = [.int .i64 a, .int .i64 b, .int .i64 k] ∧ Mod [] w w' ∧ ∀ j : Int, 1 ≤ j → j < k → pairOk a b → keyL j a b ≠ [c0, c1, c2, c3, c4]) (fun vs _ => match vs with | [_, _, .int _ i] => 3 - i.toNat | _ => 0) (by kernel_rfl) ⟨1, by omega, by omega, rfl, hM0, fun j _ _ => by omega⟩ ?_
    rintro vs w' J ⟨k, hk1, hk3, rfl, hM, hno⟩
    by_cases hk : k ≤ 2
    · have hk12 : k = 1 ∨ k = 2 := by omega
      simp (config := { maxSteps := 1000000 }) (disch := first | omega | (simp only [sizeAlloc, sizeDrew, sizeSet, sizePut]; omega) | fail) only [GS1, GS2, GS3, GS4, GS5, GS6, GS7, GS8, GS9, GS10, TT_eq, TTl, Nat.reduceAdd, Nat.reduceMul, Nat.reduceSub, Nat.reduceDiv, Nat.reduceMod, Nat.reducePow, Nat.reduceEqDiff, ↓reduceIte, reduceCtorEq, true_and, and_true, and_self, false_and, and_false, Int.reduceToNat, Int.reduceAdd, Int.reduceSub, Int.reduceMul, cond_true, cond_false, List.toList_toArray, Option.map_some, Option.map_none, Option.some.injEq, List.cons_append, List.nil_append, List.length_cons, List.length_nil, List.getD_cons_zero, List.getD_cons_succ]
      refine ⟨fok23, kname_cps k a b hk12 _ _ (hg.mod hM (by simp)) fun w2 hM2 => .inl ⟨_, rfl, hold_ops okT (rs := [.tmp 2, .tmp 3, .tmp 4, .tmp 5]) rfl ?_⟩⟩
      unfold keyA
      by_cases hp : pairOk a b
      · rw [if_pos hp]
        by_cases he : keyL k a b = [c0, c1, c2, c3, c4]
        · have hle := read_back ha.symm hb.symm hp he
          have hR1 := fun w' hM' => hR w' ⟨k, a, b, true⟩ (by rw [← he]; exact RdOk.of hk12 hp.1.1 hle hp.2.2) hM'
          clear hR
          simp (config := { maxSteps := 1000000 }) (disch := first | omega | (simp only [sizeAlloc, sizeDrew, sizeSet, sizePut]; omega) | fail) only [GS1, GS2, GS3, GS4, GS5, GS6, GS7, GS8, GS9, GS10, TT_eq, TTl, Nat.reduceAdd, Nat.reduceMul, Nat.reduceSub, Nat.reduceDiv, Nat.reduceMod, Nat.reducePow, Nat.reduceEqDiff, ↓reduceIte, reduceCtorEq, true_and, and_true, and_self, false_and, and_false, Int.reduceToNat, Int.reduceAdd, Int.reduceSub, Int.reduceMul, cond_true, cond_false, List.toList_toArray, Option.map_some, Option.map_none, Option.some.injEq, List.cons_append, List.nil_append, List.length_cons, List.length_nil, List.getD_cons_zero, List.getD_cons_succ, he]
          exact hR1 _ (hM.trans hM2 (by simp))
        · simp (config := { maxSteps := 1000000 }) (disch := first | omega | (simp only [sizeAlloc, sizeDrew, sizeSet, sizePut]; omega) | fail) only [GS1, GS2, GS3, GS4, GS5, GS6, GS7, GS8, GS9, GS10, TT_eq, TTl, Nat.reduceAdd, Nat.reduceMul, Nat.reduceSub, Nat.reduceDiv, Nat.reduceMod, Nat.reducePow, Nat.reduceEqDiff, ↓reduceIte, reduceCtorEq, true_and, and_true, and_self, false_and, and_false, Int.reduceToNat, Int.reduceAdd, Int.reduceSub, Int.reduceMul, cond_true, cond_false, List.toList_toArray, Option.map_some, Option.map_none, Option.some.injEq, List.cons_append, List.nil_append, List.length_cons, List.length_nil, List.getD_cons_zero, List.getD_cons_succ, he]
          refine ⟨⟨k + 1, by omega, by omega, rfl, hM.trans hM2 (by simp), fun j h1 h2 h3 => ?_⟩, by omega⟩
          by_cases hjk : j = k
          · rw [hjk]; exact he
          · exact hno j h1 (by omega) h3
      · rw [if_neg hp]
        simp (config := { maxSteps := 1000000 }) (disch := first | omega | (simp only [sizeAlloc, sizeDrew, sizeSet, sizePut]; omega) | fail) only [GS1, GS2, GS3, GS4, GS5, GS6, GS7, GS8, GS9, GS10, TT_eq, TTl, Nat.reduceAdd, Nat.reduceMul, Nat.reduceSub, Nat.reduceDiv, Nat.reduceMod, Nat.reducePow, Nat.reduceEqDiff, ↓reduceIte, reduceCtorEq, true_and, and_true, and_self, false_and, and_false, Int.reduceToNat, Int.reduceAdd, Int.reduceSub, Int.reduceMul, cond_true, cond_false, List.toList_toArray, Option.map_some, Option.map_none, Option.some.injEq, List.cons_append, List.nil_append, List.length_cons, List.length_nil, List.getD_cons_zero, List.getD_cons_succ]
        refine ⟨⟨k + 1, by omega, by omega, rfl, hM.trans hM2 (by simp), fun j h1 h2 h3 => absurd h3 hp⟩, by omega⟩
    · simp (config := { maxSteps := 1000000 }) (disch := first | omega | (simp only [sizeAlloc, sizeDrew, sizeSet, sizePut]; omega) | fail) only [GS1, GS2, GS3, GS4, GS5, GS6, GS7, GS8, GS9, GS10, TT_eq, TTl, Nat.reduceAdd, Nat.reduceMul, Nat.reduceSub, Nat.reduceDiv, Nat.reduceMod, Nat.reducePow, Nat.reduceEqDiff, ↓reduceIte, reduceCtorEq, true_and, and_true, and_self, false_and, and_false, Int.reduceToNat, Int.reduceAdd, Int.reduceSub, Int.reduceMul, cond_true, cond_false, List.toList_toArray, Option.map_some, Option.map_none, Option.some.injEq, List.cons_append, List.nil_append, List.length_cons, List.length_nil, List.getD_cons_zero, List.getD_cons_succ]
      refine hR _ ⟨0, 0, 0, false⟩ (.inr ⟨rfl, fun k a' b' h1 h2 h3 h4 h5 => ?_⟩) hM
      obtain ⟨e1, e2⟩ := read_only h2 h3 h4 h5
      have ea : a' = a := e1.trans ha
      have eb : b' = b := e2.trans hb
      rw [ea, eb] at h5 h3
      rw [ea] at h2
      rw [eb] at h4
      exact hno k (by omega) (by omega) ⟨⟨h2, by omega⟩, by omega, h4⟩ h5.symm
  · refine calls_go 4000 okT Tryd.func15 rfl (rs := [.tmp 2, .tmp 3, .tmp 4, .tmp 5]) rfl Tryd.ntmps15 (args := [.string ⟨s.toArray⟩]) ?_
    simp (config := { maxSteps := 1000000 }) (disch := first | omega | (simp only [sizeAlloc, sizeDrew, sizeSet, sizePut]; omega) | fail) only [GS1, GS2, GS3, GS4, GS5, GS6, GS7, GS8, GS9, GS10, TT_eq, TTl, Nat.reduceAdd, Nat.reduceMul, Nat.reduceSub, Nat.reduceDiv, Nat.reduceMod, Nat.reducePow, Nat.reduceEqDiff, ↓reduceIte, reduceCtorEq, true_and, and_true, and_self, false_and, and_false, Int.reduceToNat, Int.reduceAdd, Int.reduceSub, Int.reduceMul, cond_true, cond_false, List.toList_toArray, Option.map_some, Option.map_none, Option.some.injEq, List.cons_append, List.nil_append, List.length_cons, List.length_nil, List.getD_cons_zero, List.getD_cons_succ]
    refine hR _ ⟨0, 0, 0, false⟩ (.inr ⟨rfl, fun k a b _ _ _ _ e => h5 (by rw [e]; rfl)⟩) (Mod.refl _ _)
set_option maxRecDepth 20000 in
set_option maxHeartbeats 4000000 in
theorem rRead_cps (s : List UInt8) (w : World) (R : Ending → World → Prop) (hR : ∀ w' x, RdOk s x → Mod [] w w' → R (.returned (raV x)) w') :
    Calls Tryd.prog 16 #[.string ⟨s.toArray⟩] w R := by
  refine calls_go 4000 okT Tryd.func16 rfl (rs := [.tmp 2, .tmp 3, .tmp 4, .tmp 5]) rfl Tryd.ntmps16 (args := [.string ⟨s.toArray⟩]) ?_
  simp (config := { maxSteps := 1000000 }) (disch := first | omega | (simp only [sizeAlloc, sizeDrew, sizeSet, sizePut]; omega) | fail) only [GS1, GS2, GS3, GS4, GS5, GS6, GS7, GS8, GS9, GS10, TT_eq, TTl, Nat.reduceAdd, Nat.reduceMul, Nat.reduceSub, Nat.reduceDiv, Nat.reduceMod, Nat.reducePow, Nat.reduceEqDiff, ↓reduceIte, reduceCtorEq, true_and, and_true, and_self, false_and, and_false, Int.reduceToNat, Int.reduceAdd, Int.reduceSub, Int.reduceMul, cond_true, cond_false, List.toList_toArray, Option.map_some, Option.map_none, Option.some.injEq, List.cons_append, List.nil_append, List.length_cons, List.length_nil, List.getD_cons_zero, List.getD_cons_succ]
  refine hold_loop okT (rs := [.tmp 2, .tmp 3, .tmp 4, .tmp 5]) rfl [6] [2, 3, 4, 5, 7, 8, 9, 10, 11, 12, 13, 14, 15, 16, 17, 18, 19, 20, 21, 22, 23, 24, 25, 26, 27, 28, 29, 30, 31, 32, 33, 34, 35, 36, 37, 38, 39, 40, 41, 42] (fun vs w' => ∃ i : Int, 0 ≤ i ∧ i ≤ 8 ∧ vs = [.int .i64 i] ∧ Mod [] w w' ∧ ∀ k a b : Int, (k = 1 ∨ k = 2) → 0 ≤ a → a ≤ b → b < 8 → a < i → s ≠ keyL k a b) (fun vs _ => match vs with | [.int _ i] => 8 - i.toNat | _ => 0) (by kernel_rfl) ⟨0, by omega, by omega, rfl, Mod.refl _ _, fun k a b _ _ _ _ h => by omega⟩ ?_
  rintro vs w1 J ⟨i, hi0, hi8, rfl, hM1, hno1⟩
  by_cases hi : i < 8
  · simp (config := { maxSteps := 1000000 }) (disch := first | omega | (simp only [sizeAlloc, sizeDrew, sizeSet, sizePut]; omega) | fail) only [GS1, GS2, GS3, GS4, GS5, GS6, GS7, GS8, GS9, GS10, TT_eq, TTl, Nat.reduceAdd, Nat.reduceMul, Nat.reduceSub, Nat.reduceDiv, Nat.reduceMod, Nat.reducePow, Nat.reduceEqDiff, ↓reduceIte, reduceCtorEq, true_and, and_true, and_self, false_and, and_false, Int.reduceToNat, Int.reduceAdd, Int.reduceSub, Int.reduceMul, cond_true, cond_false, List.toList_toArray, Option.map_some, Option.map_none, Option.some.injEq, List.cons_append, List.nil_append, List.length_cons, List.length_nil, List.getD_cons_zero, List.getD_cons_succ]
    refine hold_loop okT (rs := [.tmp 2, .tmp 3, .tmp 4, .tmp 5]) rfl [7] [2, 3, 4, 5, 8, 9, 10, 11, 17, 18, 19, 20, 21, 22, 23, 24, 25, 26, 27, 28, 29, 30, 31, 32, 33, 34, 35, 36, 37, 38, 39, 40, 41, 42] (fun vs w' => ∃ j : Int, i ≤ j ∧ j ≤ 8 ∧ vs = [.int .i64 j] ∧ Mod [] w w' ∧ ∀ k b : Int, (k = 1 ∨ k = 2) → i ≤ b → b < j → s ≠ keyL k i b) (fun vs _ => match vs with | [.int _ i] => 8 - i.toNat | _ => 0) (by kernel_rfl) ⟨i, by omega, by omega, rfl, hM1, fun k b _ _ _ => by omega⟩ ?_
    rintro vs w2 J2 ⟨j, hj0, hj8, rfl, hM2, hno2⟩
    by_cases hj : j < 8
    · have hp : pairOk i j := ⟨⟨hi0, hi⟩, by omega, hj⟩
      have hkA : ∀ k, keyA k i j = .tuple #[.string ⟨(keyL k i j).toArray⟩, .int .i64 0] := fun k => by unfold keyA; rw [if_pos hp]
      simp (config := { maxSteps := 1000000 }) (disch := first | omega | (simp only [sizeAlloc, sizeDrew, sizeSet, sizePut]; omega) | fail) only [GS1, GS2, GS3, GS4, GS5, GS6, GS7, GS8, GS9, GS10, TT_eq, TTl, Nat.reduceAdd, Nat.reduceMul, Nat.reduceSub, Nat.reduceDiv, Nat.reduceMod, Nat.reducePow, Nat.reduceEqDiff, ↓reduceIte, reduceCtorEq, true_and, and_true, and_self, false_and, and_false, Int.reduceToNat, Int.reduceAdd, Int.reduceSub, Int.reduceMul, cond_true, cond_false, List.toList_toArray, Option.map_some, Option.map_none, Option.some.injEq, List.cons_append, List.nil_append, List.length_cons, List.length_nil, List.getD_cons_zero, List.getD_cons_succ]
      refine ⟨fok12, rTag_cps i j _ _ fun w3 hM3 => .inl ⟨_, rfl, hold_ops okT (rs := [.tmp 2, .tmp 3, .tmp 4, .tmp 5]) rfl ?_⟩⟩
      rw [hkA]
      simp (config := { maxSteps := 1000000 }) (disch := first | omega | (simp only [sizeAlloc, sizeDrew, sizeSet, sizePut]; omega) | fail) only [GS1, GS2, GS3, GS4, GS5, GS6, GS7, GS8, GS9, GS10, TT_eq, TTl, Nat.reduceAdd, Nat.reduceMul, Nat.reduceSub, Nat.reduceDiv, Nat.reduceMod, Nat.reducePow, Nat.reduceEqDiff, ↓reduceIte, reduceCtorEq, true_and, and_true, and_self, false_and, and_false, Int.reduceToNat, Int.reduceAdd, Int.reduceSub, Int.reduceMul, cond_true, cond_false, List.toList_toArray, Option.map_some, Option.map_none, Option.some.injEq, List.cons_append, List.nil_append, List.length_cons, List.length_nil, List.getD_cons_zero, List.getD_cons_succ]
      refine ⟨fok14, rSeal_cps i j _ _ fun w4 hM4 => .inl ⟨_, rfl, hold_ops okT (rs := [.tmp 2, .tmp 3, .tmp 4, .tmp 5]) rfl ?_⟩⟩
      rw [hkA]
      have hM := (hM2.trans hM3 (by simp)).trans hM4 (by simp)
      by_cases h1 : s = keyL 1 i j
      · simp (config := { maxSteps := 1000000 }) (disch := first | omega | (simp only [sizeAlloc, sizeDrew, sizeSet, sizePut]; omega) | fail) only [GS1, GS2, GS3, GS4, GS5, GS6, GS7, GS8, GS9, GS10, TT_eq, TTl, Nat.reduceAdd, Nat.reduceMul, Nat.reduceSub, Nat.reduceDiv, Nat.reduceMod, Nat.reducePow, Nat.reduceEqDiff, ↓reduceIte, reduceCtorEq, true_and, and_true, and_self, false_and, and_false, Int.reduceToNat, Int.reduceAdd, Int.reduceSub, Int.reduceMul, cond_true, cond_false, List.toList_toArray, Option.map_some, Option.map_none, Option.some.injEq, List.cons_append, List.nil_append, List.length_cons, List.length_nil, List.getD_cons_zero, List.getD_cons_succ, h1]
        exact hR _ ⟨1, i, j, true⟩ (by rw [h1]; exact RdOk.of (.inl rfl) hi0 hj0 hj) hM
      · by_cases h2 : s = keyL 2 i j
        · have h1' : ¬ keyL 2 i j = keyL 1 i j := by rw [← h2]; exact h1
          simp (config := { maxSteps := 1000000 }) (disch := first | omega | (simp only [sizeAlloc, sizeDrew, sizeSet, sizePut]; omega) | fail) only [GS1, GS2, GS3, GS4, GS5, GS6, GS7, GS8, GS9, GS10, TT_eq, TTl, Nat.reduceAdd, Nat.reduceMul, Nat.reduceSub, Nat.reduceDiv, Nat.reduceMod, Nat.reducePow, Nat.reduceEqDiff, ↓reduceIte, reduceCtorEq, true_and, and_true, and_self, false_and, and_false, Int.reduceToNat, Int.reduceAdd, Int.reduceSub, Int.reduceMul, cond_true, cond_false, List.toList_toArray, Option.map_some, Option.map_none, Option.some.injEq, List.cons_append, List.nil_append, List.length_cons, List.length_nil, List.getD_cons_zero, List.getD_cons_succ, h2, h1']
          exact hR _ ⟨2, i, j, true⟩ (by rw [h2]; exact RdOk.of (.inr rfl) hi0 hj0 hj) hM
        · simp (config := { maxSteps := 1000000 }) (disch := first | omega | (simp only [sizeAlloc, sizeDrew, sizeSet, sizePut]; omega) | fail) only [GS1, GS2, GS3, GS4, GS5, GS6, GS7, GS8, GS9, GS10, TT_eq, TTl, Nat.reduceAdd, Nat.reduceMul, Nat.reduceSub, Nat.reduceDiv, Nat.reduceMod, Nat.reducePow, Nat.reduceEqDiff, ↓reduceIte, reduceCtorEq, true_and, and_true, and_self, false_and, and_false, Int.reduceToNat, Int.reduceAdd, Int.reduceSub, Int.reduceMul, cond_true, cond_false, List.toList_toArray, Option.map_some, Option.map_none, Option.some.injEq, List.cons_append, List.nil_append, List.length_cons, List.length_nil, List.getD_cons_zero, List.getD_cons_succ, h1, h2]
          refine ⟨⟨j + 1, by omega, by omega, rfl, hM, fun k b hk hb1 hb2 => ?_⟩, by omega⟩
          by_cases hbj : b = j
          · rw [hbj]; rcases hk with rfl | rfl
            · exact h1
            · exact h2
          · exact hno2 k b hk hb1 (by omega)
    · simp (config := { maxSteps := 1000000 }) (disch := first | omega | (simp only [sizeAlloc, sizeDrew, sizeSet, sizePut]; omega) | fail) only [GS1, GS2, GS3, GS4, GS5, GS6, GS7, GS8, GS9, GS10, TT_eq, TTl, Nat.reduceAdd, Nat.reduceMul, Nat.reduceSub, Nat.reduceDiv, Nat.reduceMod, Nat.reducePow, Nat.reduceEqDiff, ↓reduceIte, reduceCtorEq, true_and, and_true, and_self, false_and, and_false, Int.reduceToNat, Int.reduceAdd, Int.reduceSub, Int.reduceMul, cond_true, cond_false, List.toList_toArray, Option.map_some, Option.map_none, Option.some.injEq, List.cons_append, List.nil_append, List.length_cons, List.length_nil, List.getD_cons_zero, List.getD_cons_succ]
      refine ⟨⟨i + 1, by omega, by omega, rfl, hM2, fun k a b hk ha hab hb hai => ?_⟩, by omega⟩
      by_cases e : a = i
      · rw [e]; exact hno2 k b hk (by omega) (by omega)
      · exact hno1 k a b hk ha hab hb (by omega)
  · simp (config := { maxSteps := 1000000 }) (disch := first | omega | (simp only [sizeAlloc, sizeDrew, sizeSet, sizePut]; omega) | fail) only [GS1, GS2, GS3, GS4, GS5, GS6, GS7, GS8, GS9, GS10, TT_eq, TTl, Nat.reduceAdd, Nat.reduceMul, Nat.reduceSub, Nat.reduceDiv, Nat.reduceMod, Nat.reducePow, Nat.reduceEqDiff, ↓reduceIte, reduceCtorEq, true_and, and_true, and_self, false_and, and_false, Int.reduceToNat, Int.reduceAdd, Int.reduceSub, Int.reduceMul, cond_true, cond_false, List.toList_toArray, Option.map_some, Option.map_none, Option.some.injEq, List.cons_append, List.nil_append, List.length_cons, List.length_nil, List.getD_cons_zero, List.getD_cons_succ]
    exact hR _ ⟨0, 0, 0, false⟩ (.inr ⟨rfl, fun k a b hk ha hab hb => hno1 k a b hk ha hab hb (by omega)⟩) hM1
end Go.Proofs.YtbdiihilbcinpaaDoor
