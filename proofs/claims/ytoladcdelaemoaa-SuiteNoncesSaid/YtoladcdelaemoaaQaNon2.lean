/-
  SuiteNonces (walk).
-/
import Derived.Test.YtoladcdelaemoaaQaAlv8
set_option linter.unusedSimpArgs false
set_option linter.unusedVariables false
set_option maxRecDepth 20000
namespace Go.Proofs.Ytoladcdelaemoaa
open Go Go.Wk Go.RowKit
attribute [local irreducible] go Hold
open Go.Lib
theorem byF_inj {x y : Int} (h : byF x = byF y) : x % 256 = y % 256 := by
  have h1 : IntKind.u8.wrap x = x % 256 := rfl
  have h2 : IntKind.u8.wrap y = y % 256 := rfl
  rw [← h1, ← h2, byF_eq, byF_eq, h]
theorem four_inj {x y : Int} (hx : 0 ≤ x ∧ x ≤ 2147483647) (hy : 0 ≤ y ∧ y ≤ 2147483647) (h : outF [x] = outF [y]) : x = y := by
  have f1 : ∀ z : Int, z.fdiv (2 ^ 24) = z / 16777216 := fun z => Int.fdiv_eq_ediv_of_nonneg _ (by decide)
  have f2 : ∀ z : Int, z.fdiv (2 ^ 16) = z / 65536 := fun z => Int.fdiv_eq_ediv_of_nonneg _ (by decide)
  have f3 : ∀ z : Int, z.fdiv (2 ^ 8) = z / 256 := fun z => Int.fdiv_eq_ediv_of_nonneg _ (by decide)
  unfold outF at h
  simp only [List.flatMap_cons, List.flatMap_nil, List.append_nil, List.cons.injEq, and_true, f1, f2, f3] at h
  obtain ⟨h1, h2, h3, h4⟩ := h
  have h1 := byF_inj h1
  have h2 := byF_inj h2
  have h3 := byF_inj h3
  have h4 := byF_inj h4
  omega
theorem non_in {a b c : Int} (h : (nonS [a, b, c]).2 = 0) : ((0 ≤ a ∧ a ≤ 2147483647) ∧ (0 ≤ b ∧ b ≤ 2147483647) ∧ (0 ≤ c ∧ c ≤ 2147483647)) ∧ (nonS [a, b, c]).1 = 100 :: (numL 12 ++ outF [a, b, c]) := by
  unfold nonS at h ⊢
  by_cases hall : ([a, b, c] : List Int).all numOk = true
  · rw [if_pos hall]
    refine ⟨?_, ?_⟩
    · simpa only [List.all_cons, List.all_nil, Bool.and_true, Bool.and_eq_true, numOk, decide_eq_true_eq] using hall
    · unfold dataS
      have : (outF [a, b, c]).length = 12 := by rw [outF_len]; rfl
      rw [this, if_neg (by decide)]
  · rw [if_neg hall] at h
    exact absurd h (by decide)
theorem non_inj {a b c d e f : Int} (h : (nonS [a, b, c]).2 = 0) (h2 : (nonS [d, e, f]).2 = 0) : (nonS [a, b, c]).1 = (nonS [d, e, f]).1 ↔ (a = d ∧ b = e ∧ c = f) := by
  obtain ⟨⟨ha, hb, hc⟩, e1⟩ := non_in h
  obtain ⟨⟨hd, he, hf⟩, e2⟩ := non_in h2
  rw [e1, e2]
  constructor
  · intro q
    have q := List.append_cancel_left (List.cons.inj q).2
    have s : ∀ x y z : Int, outF [x, y, z] = outF [x] ++ (outF [y] ++ outF [z]) := fun _ _ _ => rfl
    rw [s, s] at q
    obtain ⟨q1, q⟩ := List.append_inj q (by rw [outF_len, outF_len]; rfl)
    obtain ⟨q2, q3⟩ := List.append_inj q (by rw [outF_len, outF_len]; rfl)
    exact ⟨four_inj ha hd q1, four_inj hb he q2, four_inj hc hf q3⟩
  · rintro ⟨rfl, rfl, rfl⟩
    rfl
set_option maxRecDepth 20000 in
set_option maxHeartbeats 16000000 in
theorem nonces_cps (kt : List Int) (a b c d e f : Int) (ha : -9223372036854775808 ≤ a ∧ a ≤ 9223372036854775807) (hb : -9223372036854775808 ≤ b ∧ b ≤ 9223372036854775807) (hc : -9223372036854775808 ≤ c ∧ c ≤ 9223372036854775807)
    (hd : -9223372036854775808 ≤ d ∧ d ≤ 9223372036854775807) (he : -9223372036854775808 ≤ e ∧ e ≤ 9223372036854775807) (hf : -9223372036854775808 ≤ f ∧ f ≤ 9223372036854775807) (w : World) (hK : KTab w kt) (R : Ending → World → Prop)
    (hR : ∀ w', Mod [] w w' → R (.returned (.bool true)) w') : Calls Try.prog 4 #[.int .i64 a, .int .i64 b, .int .i64 c, .int .i64 d, .int .i64 e, .int .i64 f] w R := by
  refine calls_go 4000 okT Try.func4 rfl (rs := [.tmp 12]) rfl Try.ntmps4 (args := [.int .i64 a, .int .i64 b, .int .i64 c, .int .i64 d, .int .i64 e, .int .i64 f]) ?_
  simp (maxSteps := 1000000) (disch := first | omega | (simp only [sizeAlloc, sizeDrew, sizeSet, sizePut] <;> omega) | fail) only [GS, TT_eq, TTl, Nat.reduceAdd, Nat.reduceMul, Nat.reduceSub, Nat.reduceDiv, Nat.reduceMod, Nat.reducePow, Nat.reduceEqDiff, ↓reduceIte, reduceCtorEq, Int.reduceToNat, Int.reduceAdd, Int.reduceSub, Int.reduceMul]
  refine ⟨fok14, sNonce_cps a b c ha hb hc _ _ fun w1 hM1 => .inl ⟨_, rfl, hold_ops okT (rs := [.tmp 12]) rfl ?_⟩⟩
  have hX := @non_inj a b c d e f
  generalize hXe : nonS [a, b, c] = X at *
  obtain ⟨x, g⟩ := X
  unfold stV
  simp (maxSteps := 1000000) (disch := first | omega | (simp only [sizeAlloc, sizeDrew, sizeSet, sizePut] <;> omega) | fail) only [GS, TT_eq, TTl, Nat.reduceAdd, Nat.reduceMul, Nat.reduceSub, Nat.reduceDiv, Nat.reduceMod, Nat.reducePow, Nat.reduceEqDiff, ↓reduceIte, reduceCtorEq, Int.reduceToNat, Int.reduceAdd, Int.reduceSub, Int.reduceMul]
  refine ⟨fok15, rNonce_cps a b c ha hb hc _ _ fun w2 hM2 => .inl ⟨_, rfl, hold_ops okT (rs := [.tmp 12]) rfl ?_⟩⟩
  rw [hXe]
  unfold stV
  simp (maxSteps := 1000000) (disch := first | omega | (simp only [sizeAlloc, sizeDrew, sizeSet, sizePut] <;> omega) | fail) only [GS, TT_eq, TTl, Nat.reduceAdd, Nat.reduceMul, Nat.reduceSub, Nat.reduceDiv, Nat.reduceMod, Nat.reducePow, Nat.reduceEqDiff, ↓reduceIte, reduceCtorEq, Int.reduceToNat, Int.reduceAdd, Int.reduceSub, Int.reduceMul]
  refine ⟨fok14, sNonce_cps d e f hd he hf _ _ fun w3 hM3 => .inl ⟨_, rfl, hold_ops okT (rs := [.tmp 12]) rfl ?_⟩⟩
  generalize nonS [d, e, f] = Z at *
  obtain ⟨z, i⟩ := Z
  unfold stV
  have hM03 := (hM1.trans hM2 (by simp)).trans hM3 (by simp)
  have same : ∀ (P Q : Prop) [Decidable P] [Decidable Q] (k : (P ↔ Q)), decide P = decide Q := fun P Q _ _ k => decide_eq_decide.2 k
  by_cases hg : g = 0
  rotate_left
  · by_cases h1 : a = d
    rotate_left
    · simp (maxSteps := 1000000) (disch := first | omega | (simp only [sizeAlloc, sizeDrew, sizeSet, sizePut] <;> omega) | fail) only [GS, TT_eq, TTl, Nat.reduceAdd, Nat.reduceMul, Nat.reduceSub, Nat.reduceDiv, Nat.reduceMod, Nat.reducePow, Nat.reduceEqDiff, ↓reduceIte, reduceCtorEq, Int.reduceToNat, Int.reduceAdd, Int.reduceSub, Int.reduceMul, eq_self, hg, h1]
      refine ⟨fok16, alive8_cps kt _ (hK.mod hM03 (by simp)) _ fun w4 hM4 => .inl ⟨_, rfl, hold_ops okT (rs := [.tmp 12]) rfl ?_⟩⟩
      simp (maxSteps := 1000000) (disch := first | omega | (simp only [sizeAlloc, sizeDrew, sizeSet, sizePut] <;> omega) | fail) only [GS, TT_eq, TTl, Nat.reduceAdd, Nat.reduceMul, Nat.reduceSub, Nat.reduceDiv, Nat.reduceMod, Nat.reducePow, Nat.reduceEqDiff, ↓reduceIte, reduceCtorEq, Int.reduceToNat, Int.reduceAdd, Int.reduceSub, Int.reduceMul]
      exact hR _ (hM03.trans hM4 (by simp))
    by_cases h2 : b = e
    rotate_left
    · simp (maxSteps := 1000000) (disch := first | omega | (simp only [sizeAlloc, sizeDrew, sizeSet, sizePut] <;> omega) | fail) only [GS, TT_eq, TTl, Nat.reduceAdd, Nat.reduceMul, Nat.reduceSub, Nat.reduceDiv, Nat.reduceMod, Nat.reducePow, Nat.reduceEqDiff, ↓reduceIte, reduceCtorEq, Int.reduceToNat, Int.reduceAdd, Int.reduceSub, Int.reduceMul, eq_self, hg, h1, h2]
      refine ⟨fok16, alive8_cps kt _ (hK.mod hM03 (by simp)) _ fun w4 hM4 => .inl ⟨_, rfl, hold_ops okT (rs := [.tmp 12]) rfl ?_⟩⟩
      simp (maxSteps := 1000000) (disch := first | omega | (simp only [sizeAlloc, sizeDrew, sizeSet, sizePut] <;> omega) | fail) only [GS, TT_eq, TTl, Nat.reduceAdd, Nat.reduceMul, Nat.reduceSub, Nat.reduceDiv, Nat.reduceMod, Nat.reducePow, Nat.reduceEqDiff, ↓reduceIte, reduceCtorEq, Int.reduceToNat, Int.reduceAdd, Int.reduceSub, Int.reduceMul]
      exact hR _ (hM03.trans hM4 (by simp))
    by_cases h3 : c = f
    rotate_left
    · simp (maxSteps := 1000000) (disch := first | omega | (simp only [sizeAlloc, sizeDrew, sizeSet, sizePut] <;> omega) | fail) only [GS, TT_eq, TTl, Nat.reduceAdd, Nat.reduceMul, Nat.reduceSub, Nat.reduceDiv, Nat.reduceMod, Nat.reducePow, Nat.reduceEqDiff, ↓reduceIte, reduceCtorEq, Int.reduceToNat, Int.reduceAdd, Int.reduceSub, Int.reduceMul, eq_self, hg, h1, h2, h3]
      refine ⟨fok16, alive8_cps kt _ (hK.mod hM03 (by simp)) _ fun w4 hM4 => .inl ⟨_, rfl, hold_ops okT (rs := [.tmp 12]) rfl ?_⟩⟩
      simp (maxSteps := 1000000) (disch := first | omega | (simp only [sizeAlloc, sizeDrew, sizeSet, sizePut] <;> omega) | fail) only [GS, TT_eq, TTl, Nat.reduceAdd, Nat.reduceMul, Nat.reduceSub, Nat.reduceDiv, Nat.reduceMod, Nat.reducePow, Nat.reduceEqDiff, ↓reduceIte, reduceCtorEq, Int.reduceToNat, Int.reduceAdd, Int.reduceSub, Int.reduceMul]
      exact hR _ (hM03.trans hM4 (by simp))
    simp (maxSteps := 1000000) (disch := first | omega | (simp only [sizeAlloc, sizeDrew, sizeSet, sizePut] <;> omega) | fail) only [GS, TT_eq, TTl, Nat.reduceAdd, Nat.reduceMul, Nat.reduceSub, Nat.reduceDiv, Nat.reduceMod, Nat.reducePow, Nat.reduceEqDiff, ↓reduceIte, reduceCtorEq, Int.reduceToNat, Int.reduceAdd, Int.reduceSub, Int.reduceMul, eq_self, hg, h1, h2, h3]
    refine ⟨fok16, alive8_cps kt _ (hK.mod hM03 (by simp)) _ fun w4 hM4 => .inl ⟨_, rfl, hold_ops okT (rs := [.tmp 12]) rfl ?_⟩⟩
    simp (maxSteps := 1000000) (disch := first | omega | (simp only [sizeAlloc, sizeDrew, sizeSet, sizePut] <;> omega) | fail) only [GS, TT_eq, TTl, Nat.reduceAdd, Nat.reduceMul, Nat.reduceSub, Nat.reduceDiv, Nat.reduceMod, Nat.reducePow, Nat.reduceEqDiff, ↓reduceIte, reduceCtorEq, Int.reduceToNat, Int.reduceAdd, Int.reduceSub, Int.reduceMul]
    exact hR _ (hM03.trans hM4 (by simp))
  by_cases hi : i = 0
  rotate_left
  · by_cases h1 : a = d
    rotate_left
    · simp (maxSteps := 1000000) (disch := first | omega | (simp only [sizeAlloc, sizeDrew, sizeSet, sizePut] <;> omega) | fail) only [GS, TT_eq, TTl, Nat.reduceAdd, Nat.reduceMul, Nat.reduceSub, Nat.reduceDiv, Nat.reduceMod, Nat.reducePow, Nat.reduceEqDiff, ↓reduceIte, reduceCtorEq, Int.reduceToNat, Int.reduceAdd, Int.reduceSub, Int.reduceMul, eq_self, hg, hi, h1]
      refine ⟨fok16, alive8_cps kt _ (hK.mod hM03 (by simp)) _ fun w4 hM4 => .inl ⟨_, rfl, hold_ops okT (rs := [.tmp 12]) rfl ?_⟩⟩
      simp (maxSteps := 1000000) (disch := first | omega | (simp only [sizeAlloc, sizeDrew, sizeSet, sizePut] <;> omega) | fail) only [GS, TT_eq, TTl, Nat.reduceAdd, Nat.reduceMul, Nat.reduceSub, Nat.reduceDiv, Nat.reduceMod, Nat.reducePow, Nat.reduceEqDiff, ↓reduceIte, reduceCtorEq, Int.reduceToNat, Int.reduceAdd, Int.reduceSub, Int.reduceMul]
      exact hR _ (hM03.trans hM4 (by simp))
    by_cases h2 : b = e
    rotate_left
    · simp (maxSteps := 1000000) (disch := first | omega | (simp only [sizeAlloc, sizeDrew, sizeSet, sizePut] <;> omega) | fail) only [GS, TT_eq, TTl, Nat.reduceAdd, Nat.reduceMul, Nat.reduceSub, Nat.reduceDiv, Nat.reduceMod, Nat.reducePow, Nat.reduceEqDiff, ↓reduceIte, reduceCtorEq, Int.reduceToNat, Int.reduceAdd, Int.reduceSub, Int.reduceMul, eq_self, hg, hi, h1, h2]
      refine ⟨fok16, alive8_cps kt _ (hK.mod hM03 (by simp)) _ fun w4 hM4 => .inl ⟨_, rfl, hold_ops okT (rs := [.tmp 12]) rfl ?_⟩⟩
      simp (maxSteps := 1000000) (disch := first | omega | (simp only [sizeAlloc, sizeDrew, sizeSet, sizePut] <;> omega) | fail) only [GS, TT_eq, TTl, Nat.reduceAdd, Nat.reduceMul, Nat.reduceSub, Nat.reduceDiv, Nat.reduceMod, Nat.reducePow, Nat.reduceEqDiff, ↓reduceIte, reduceCtorEq, Int.reduceToNat, Int.reduceAdd, Int.reduceSub, Int.reduceMul]
      exact hR _ (hM03.trans hM4 (by simp))
    by_cases h3 : c = f
    rotate_left
    · simp (maxSteps := 1000000) (disch := first | omega | (simp only [sizeAlloc, sizeDrew, sizeSet, sizePut] <;> omega) | fail) only [GS, TT_eq, TTl, Nat.reduceAdd, Nat.reduceMul, Nat.reduceSub, Nat.reduceDiv, Nat.reduceMod, Nat.reducePow, Nat.reduceEqDiff, ↓reduceIte, reduceCtorEq, Int.reduceToNat, Int.reduceAdd, Int.reduceSub, Int.reduceMul, eq_self, hg, hi, h1, h2, h3]
      refine ⟨fok16, alive8_cps kt _ (hK.mod hM03 (by simp)) _ fun w4 hM4 => .inl ⟨_, rfl, hold_ops okT (rs := [.tmp 12]) rfl ?_⟩⟩
      simp (maxSteps := 1000000) (disch := first | omega | (simp only [sizeAlloc, sizeDrew, sizeSet, sizePut] <;> omega) | fail) only [GS, TT_eq, TTl, Nat.reduceAdd, Nat.reduceMul, Nat.reduceSub, Nat.reduceDiv, Nat.reduceMod, Nat.reducePow, Nat.reduceEqDiff, ↓reduceIte, reduceCtorEq, Int.reduceToNat, Int.reduceAdd, Int.reduceSub, Int.reduceMul]
      exact hR _ (hM03.trans hM4 (by simp))
    simp (maxSteps := 1000000) (disch := first | omega | (simp only [sizeAlloc, sizeDrew, sizeSet, sizePut] <;> omega) | fail) only [GS, TT_eq, TTl, Nat.reduceAdd, Nat.reduceMul, Nat.reduceSub, Nat.reduceDiv, Nat.reduceMod, Nat.reducePow, Nat.reduceEqDiff, ↓reduceIte, reduceCtorEq, Int.reduceToNat, Int.reduceAdd, Int.reduceSub, Int.reduceMul, eq_self, hg, hi, h1, h2, h3]
    refine ⟨fok16, alive8_cps kt _ (hK.mod hM03 (by simp)) _ fun w4 hM4 => .inl ⟨_, rfl, hold_ops okT (rs := [.tmp 12]) rfl ?_⟩⟩
    simp (maxSteps := 1000000) (disch := first | omega | (simp only [sizeAlloc, sizeDrew, sizeSet, sizePut] <;> omega) | fail) only [GS, TT_eq, TTl, Nat.reduceAdd, Nat.reduceMul, Nat.reduceSub, Nat.reduceDiv, Nat.reduceMod, Nat.reducePow, Nat.reduceEqDiff, ↓reduceIte, reduceCtorEq, Int.reduceToNat, Int.reduceAdd, Int.reduceSub, Int.reduceMul]
    exact hR _ (hM03.trans hM4 (by simp))
  have hX2 := hX hg hi
  simp only at hX2
  by_cases h1 : a = d
  rotate_left
  · have hxz : ¬ x = z := fun q => by have := hX2.1 q; simp_all
    simp (maxSteps := 1000000) (disch := first | omega | (simp only [sizeAlloc, sizeDrew, sizeSet, sizePut] <;> omega) | fail) only [GS, TT_eq, TTl, Nat.reduceAdd, Nat.reduceMul, Nat.reduceSub, Nat.reduceDiv, Nat.reduceMod, Nat.reducePow, Nat.reduceEqDiff, ↓reduceIte, reduceCtorEq, Int.reduceToNat, Int.reduceAdd, Int.reduceSub, Int.reduceMul, eq_self, hg, hi, h1, hxz]
    refine ⟨fok16, alive8_cps kt _ (hK.mod hM03 (by simp)) _ fun w4 hM4 => .inl ⟨_, rfl, hold_ops okT (rs := [.tmp 12]) rfl ?_⟩⟩
    simp (maxSteps := 1000000) (disch := first | omega | (simp only [sizeAlloc, sizeDrew, sizeSet, sizePut] <;> omega) | fail) only [GS, TT_eq, TTl, Nat.reduceAdd, Nat.reduceMul, Nat.reduceSub, Nat.reduceDiv, Nat.reduceMod, Nat.reducePow, Nat.reduceEqDiff, ↓reduceIte, reduceCtorEq, Int.reduceToNat, Int.reduceAdd, Int.reduceSub, Int.reduceMul]
    exact hR _ (hM03.trans hM4 (by simp))
  by_cases h2 : b = e
  rotate_left
  · have hxz : ¬ x = z := fun q => by have := hX2.1 q; simp_all
    simp (maxSteps := 1000000) (disch := first | omega | (simp only [sizeAlloc, sizeDrew, sizeSet, sizePut] <;> omega) | fail) only [GS, TT_eq, TTl, Nat.reduceAdd, Nat.reduceMul, Nat.reduceSub, Nat.reduceDiv, Nat.reduceMod, Nat.reducePow, Nat.reduceEqDiff, ↓reduceIte, reduceCtorEq, Int.reduceToNat, Int.reduceAdd, Int.reduceSub, Int.reduceMul, eq_self, hg, hi, h1, h2, hxz]
    refine ⟨fok16, alive8_cps kt _ (hK.mod hM03 (by simp)) _ fun w4 hM4 => .inl ⟨_, rfl, hold_ops okT (rs := [.tmp 12]) rfl ?_⟩⟩
    simp (maxSteps := 1000000) (disch := first | omega | (simp only [sizeAlloc, sizeDrew, sizeSet, sizePut] <;> omega) | fail) only [GS, TT_eq, TTl, Nat.reduceAdd, Nat.reduceMul, Nat.reduceSub, Nat.reduceDiv, Nat.reduceMod, Nat.reducePow, Nat.reduceEqDiff, ↓reduceIte, reduceCtorEq, Int.reduceToNat, Int.reduceAdd, Int.reduceSub, Int.reduceMul]
    exact hR _ (hM03.trans hM4 (by simp))
  by_cases h3 : c = f
  rotate_left
  · have hxz : ¬ x = z := fun q => by have := hX2.1 q; simp_all
    simp (maxSteps := 1000000) (disch := first | omega | (simp only [sizeAlloc, sizeDrew, sizeSet, sizePut] <;> omega) | fail) only [GS, TT_eq, TTl, Nat.reduceAdd, Nat.reduceMul, Nat.reduceSub, Nat.reduceDiv, Nat.reduceMod, Nat.reducePow, Nat.reduceEqDiff, ↓reduceIte, reduceCtorEq, Int.reduceToNat, Int.reduceAdd, Int.reduceSub, Int.reduceMul, eq_self, hg, hi, h1, h2, h3, hxz]
    refine ⟨fok16, alive8_cps kt _ (hK.mod hM03 (by simp)) _ fun w4 hM4 => .inl ⟨_, rfl, hold_ops okT (rs := [.tmp 12]) rfl ?_⟩⟩
    simp (maxSteps := 1000000) (disch := first | omega | (simp only [sizeAlloc, sizeDrew, sizeSet, sizePut] <;> omega) | fail) only [GS, TT_eq, TTl, Nat.reduceAdd, Nat.reduceMul, Nat.reduceSub, Nat.reduceDiv, Nat.reduceMod, Nat.reducePow, Nat.reduceEqDiff, ↓reduceIte, reduceCtorEq, Int.reduceToNat, Int.reduceAdd, Int.reduceSub, Int.reduceMul]
    exact hR _ (hM03.trans hM4 (by simp))
  obtain rfl : x = z := hX2.2 ⟨h1, h2, h3⟩
  simp (maxSteps := 1000000) (disch := first | omega | (simp only [sizeAlloc, sizeDrew, sizeSet, sizePut] <;> omega) | fail) only [GS, TT_eq, TTl, Nat.reduceAdd, Nat.reduceMul, Nat.reduceSub, Nat.reduceDiv, Nat.reduceMod, Nat.reducePow, Nat.reduceEqDiff, ↓reduceIte, reduceCtorEq, Int.reduceToNat, Int.reduceAdd, Int.reduceSub, Int.reduceMul, eq_self, hg, hi, h1, h2, h3]
  refine ⟨fok16, alive8_cps kt _ (hK.mod hM03 (by simp)) _ fun w4 hM4 => .inl ⟨_, rfl, hold_ops okT (rs := [.tmp 12]) rfl ?_⟩⟩
  simp (maxSteps := 1000000) (disch := first | omega | (simp only [sizeAlloc, sizeDrew, sizeSet, sizePut] <;> omega) | fail) only [GS, TT_eq, TTl, Nat.reduceAdd, Nat.reduceMul, Nat.reduceSub, Nat.reduceDiv, Nat.reduceMod, Nat.reducePow, Nat.reduceEqDiff, ↓reduceIte, reduceCtorEq, Int.reduceToNat, Int.reduceAdd, Int.reduceSub, Int.reduceMul]
  exact hR _ (hM03.trans hM4 (by simp))
end Go.Proofs.Ytoladcdelaemoaa
