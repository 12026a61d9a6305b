/-
  The reference's terms, of any text: Kind, Parts, Text, ReadNum (walks).
-/
import Derived.Test.YthnlmmkhehphiaaGreatDoorEtRef1
import Derived.Test.YthnlmmkhehphiaaGreatDoorEtW1
set_option linter.unusedSimpArgs false
set_option linter.unusedVariables false
set_option maxRecDepth 20000
namespace Go.Proofs.YthnlmmkhehphiaaGreatDoor
open Go Go.Wk Go.RowKit
attribute [local irreducible] go Hold
open Go.Lib
theorem rKindA_cps (S : List UInt8) (hS : S.length ≤ maxLen) (w : World) (R : Ending → World → Prop) (hR : ∀ w', Mod [] w w' → R (.returned (.int .u8 (kindS S))) w') :
    Calls Tryz.prog 60 #[.string ⟨S.toArray⟩] w R := by
  by_cases h : checkS S = 0
  · exact rKind_cps S h w R hR
  · have hk : kindS S = 0 := by unfold kindS; rw [if_neg h]
    rw [hk] at hR
    refine calls_go 4000 okT Tryz.func60 rfl (rs := [.tmp 2]) rfl Tryz.ntmps60 (args := [.string ⟨S.toArray⟩]) ?_
    simp (maxSteps := 1000000) (disch := first | omega | (simp only [sizeAlloc, sizeDrew, sizeSet, sizePut] <;> omega) | fail) only [GS, TT_eq, TTl, Nat.reduceAdd, Nat.reduceMul, Nat.reduceSub, Nat.reduceDiv, Nat.reduceMod, Nat.reducePow, Nat.reduceEqDiff, ↓reduceIte, reduceCtorEq, Int.reduceToNat, Int.reduceAdd, Int.reduceSub, Int.reduceMul]
    refine ⟨fok63, rMay_cps S hS _ _ fun w1 hM1 => .inl ⟨_, rfl, hold_ops okT (rs := [.tmp 2]) rfl ?_⟩⟩
    rw [decide_eq_false h]
    simp (maxSteps := 1000000) (disch := first | omega | (simp only [sizeAlloc, sizeDrew, sizeSet, sizePut] <;> omega) | fail) only [GS, TT_eq, TTl, Nat.reduceAdd, Nat.reduceMul, Nat.reduceSub, Nat.reduceDiv, Nat.reduceMod, Nat.reducePow, Nat.reduceEqDiff, ↓reduceIte, reduceCtorEq, Int.reduceToNat, Int.reduceAdd, Int.reduceSub, Int.reduceMul]
    exact hR _ hM1
theorem rPartsA_cps (S : List UInt8) (hS : S.length ≤ maxLen) (w : World) (R : Ending → World → Prop) (hR0 : checkS S ≠ 0 → ∀ w', Mod [] w w' → R (.returned (.tuple #[.slice none 0 0, .bool false])) w')
    (hR : checkS S = 0 → ∀ sv w', w'.ownsRow w.heap.size 9 1 sv (partsS S).length ((partsS S).map strV) → Mod [] w w' → R (.returned (.tuple #[sv, .bool true])) w') :
    Calls Tryz.prog 59 #[.string ⟨S.toArray⟩] w R := by
  by_cases h : checkS S = 0
  · exact rParts_cps S h w R (hR h)
  · refine calls_go 4000 okT Tryz.func59 rfl (rs := [.tmp 2, .tmp 3]) rfl Tryz.ntmps59 (args := [.string ⟨S.toArray⟩]) ?_
    simp (maxSteps := 1000000) (disch := first | omega | (simp only [sizeAlloc, sizeDrew, sizeSet, sizePut] <;> omega) | fail) only [GS, TT_eq, TTl, Nat.reduceAdd, Nat.reduceMul, Nat.reduceSub, Nat.reduceDiv, Nat.reduceMod, Nat.reducePow, Nat.reduceEqDiff, ↓reduceIte, reduceCtorEq, Int.reduceToNat, Int.reduceAdd, Int.reduceSub, Int.reduceMul]
    refine ⟨fok63, rMay_cps S hS _ _ fun w1 hM1 => .inl ⟨_, rfl, hold_ops okT (rs := [.tmp 2, .tmp 3]) rfl ?_⟩⟩
    rw [decide_eq_false h]
    simp (maxSteps := 1000000) (disch := first | omega | (simp only [sizeAlloc, sizeDrew, sizeSet, sizePut] <;> omega) | fail) only [GS, TT_eq, TTl, Nat.reduceAdd, Nat.reduceMul, Nat.reduceSub, Nat.reduceDiv, Nat.reduceMod, Nat.reducePow, Nat.reduceEqDiff, ↓reduceIte, reduceCtorEq, Int.reduceToNat, Int.reduceAdd, Int.reduceSub, Int.reduceMul]
    exact hR0 h _ hM1
set_option maxHeartbeats 2000000 in
theorem rTextA_cps (S : List UInt8) (hS : S.length ≤ maxLen) (w : World) (R : Ending → World → Prop) (hR : ∀ w', Mod [] w w' → R (.returned (.tuple #[.string ⟨(textS S).1.toArray⟩, .bool (textS S).2])) w') :
    Calls Tryz.prog 121 #[.string ⟨S.toArray⟩] w R := by
  refine calls_go 4000 okT Tryz.func121 rfl (rs := [.tmp 2, .tmp 3]) rfl Tryz.ntmps121 (args := [.string ⟨S.toArray⟩]) ?_
  simp (maxSteps := 1000000) (disch := first | omega | (simp only [sizeAlloc, sizeDrew, sizeSet, sizePut] <;> omega) | fail) only [GS, TT_eq, TTl, Nat.reduceAdd, Nat.reduceMul, Nat.reduceSub, Nat.reduceDiv, Nat.reduceMod, Nat.reducePow, Nat.reduceEqDiff, ↓reduceIte, reduceCtorEq, Int.reduceToNat, Int.reduceAdd, Int.reduceSub, Int.reduceMul]
  refine ⟨fok63, rMay_cps S hS _ _ fun w1 hM1 => .inl ⟨_, rfl, hold_ops okT (rs := [.tmp 2, .tmp 3]) rfl ?_⟩⟩
  by_cases h : checkS S = 0
  rotate_left
  · have hk : kindS S = 0 := by unfold kindS; rw [if_neg h]
    unfold textS at hR
    rw [hk, if_neg (by omega)] at hR
    rw [decide_eq_false h]
    simp (maxSteps := 1000000) (disch := first | omega | (simp only [sizeAlloc, sizeDrew, sizeSet, sizePut] <;> omega) | fail) only [GS, TT_eq, TTl, Nat.reduceAdd, Nat.reduceMul, Nat.reduceSub, Nat.reduceDiv, Nat.reduceMod, Nat.reducePow, Nat.reduceEqDiff, ↓reduceIte, reduceCtorEq, Int.reduceToNat, Int.reduceAdd, Int.reduceSub, Int.reduceMul]
    exact hR _ hM1
  have hSl := (check0 h).2.2.1
  have hk0 : kindS S = kC (S.headD 0) := by unfold kindS; rw [if_pos h]
  rw [decide_eq_true h]
  cases S with
  | nil => exact absurd h checkS_nil
  | cons c r =>
    have hk : kindS (c :: r) = kC c := hk0
    have g0 : (c :: r).getD 0 0 = c := rfl
    have hsl : (c :: r).length = r.length + 1 := rfl
    have hdr : (c :: r).drop 1 = r := rfl
    unfold textS at hR
    rw [hk] at hR
    by_cases h1 : c = 100
    · have n1 : c.toNat = 100 := by rw [h1]; rfl
      rw [if_pos (.inl (by rw [h1]; rfl)), List.drop_succ_cons, List.drop_zero] at hR
      simp (maxSteps := 1000000) (disch := first | omega | (simp only [sizeAlloc, sizeDrew, sizeSet, sizePut] <;> omega) | fail) only [GS, TT_eq, TTl, Nat.reduceAdd, Nat.reduceMul, Nat.reduceSub, Nat.reduceDiv, Nat.reduceMod, Nat.reducePow, Nat.reduceEqDiff, ↓reduceIte, reduceCtorEq, Int.reduceToNat, Int.reduceAdd, Int.reduceSub, Int.reduceMul, g0, hdr]
      refine ⟨fok147, rReadText_cps r 1024 (by decide) (by unfold maxLen; omega) _ _ fun w2 hM2 => .inl ⟨_, rfl, hold_ops okT (rs := [.tmp 2, .tmp 3]) rfl ?_⟩⟩
      unfold rtV
      simp (maxSteps := 1000000) (disch := first | omega | (simp only [sizeAlloc, sizeDrew, sizeSet, sizePut] <;> omega) | fail) only [GS, TT_eq, TTl, Nat.reduceAdd, Nat.reduceMul, Nat.reduceSub, Nat.reduceDiv, Nat.reduceMod, Nat.reducePow, Nat.reduceEqDiff, ↓reduceIte, reduceCtorEq, Int.reduceToNat, Int.reduceAdd, Int.reduceSub, Int.reduceMul]
      exact hR _ (hM1.trans hM2 (by simp))
    · by_cases h2 : c = 97
      · have n2 : c.toNat = 97 := by rw [h2]; rfl
        rw [if_pos (.inr (by rw [h2]; rfl)), List.drop_succ_cons, List.drop_zero] at hR
        simp (maxSteps := 1000000) (disch := first | omega | (simp only [sizeAlloc, sizeDrew, sizeSet, sizePut] <;> omega) | fail) only [GS, TT_eq, TTl, Nat.reduceAdd, Nat.reduceMul, Nat.reduceSub, Nat.reduceDiv, Nat.reduceMod, Nat.reducePow, Nat.reduceEqDiff, ↓reduceIte, reduceCtorEq, Int.reduceToNat, Int.reduceAdd, Int.reduceSub, Int.reduceMul, g0, hdr]
        refine ⟨fok147, rReadText_cps r 1024 (by decide) (by unfold maxLen; omega) _ _ fun w2 hM2 => .inl ⟨_, rfl, hold_ops okT (rs := [.tmp 2, .tmp 3]) rfl ?_⟩⟩
        unfold rtV
        simp (maxSteps := 1000000) (disch := first | omega | (simp only [sizeAlloc, sizeDrew, sizeSet, sizePut] <;> omega) | fail) only [GS, TT_eq, TTl, Nat.reduceAdd, Nat.reduceMul, Nat.reduceSub, Nat.reduceDiv, Nat.reduceMod, Nat.reducePow, Nat.reduceEqDiff, ↓reduceIte, reduceCtorEq, Int.reduceToNat, Int.reduceAdd, Int.reduceSub, Int.reduceMul]
        exact hR _ (hM1.trans hM2 (by simp))
      · have n1 : c.toNat ≠ 100 := fun e => h1 (UInt8.toNat_inj.1 e)
        have n2 : c.toNat ≠ 97 := fun e => h2 (UInt8.toNat_inj.1 e)
        rw [if_neg] at hR
        · simp (maxSteps := 1000000) (disch := first | omega | (simp only [sizeAlloc, sizeDrew, sizeSet, sizePut] <;> omega) | fail) only [GS, TT_eq, TTl, Nat.reduceAdd, Nat.reduceMul, Nat.reduceSub, Nat.reduceDiv, Nat.reduceMod, Nat.reducePow, Nat.reduceEqDiff, ↓reduceIte, reduceCtorEq, Int.reduceToNat, Int.reduceAdd, Int.reduceSub, Int.reduceMul, g0, hdr]
          exact hR _ hM1
        · unfold kC
          rw [if_neg h1, if_neg h2]
          split
          · simp
          · split
            · simp
            · split
              · simp
              · split <;> simp
set_option maxRecDepth 20000 in
set_option maxHeartbeats 4000000 in
theorem rReadNumA_cps (S : List UInt8) (hS : S.length ≤ maxLen) (w : World) (R : Ending → World → Prop) (hR : ∀ w', Mod [] w w' → R (.returned (nuV (numT S))) w') :
    Calls Tryz.prog 84 #[.string ⟨S.toArray⟩] w R := by
  have hTL : (textS S).1.length ≤ maxLen := by
    unfold textS
    split
    · cases S with
      | nil => simp [readTextS, readNumS]
      | cons c r =>
        rw [List.drop_succ_cons, List.drop_zero]
        generalize hq : readTextS r 1024 = q
        obtain ⟨t, n, e⟩ := q
        have := (readTextS_len hq).2
        simp only [List.length_cons] at hS ⊢
        omega
    · simp
  refine calls_go 4000 okT Tryz.func84 rfl (rs := [.tmp 2, .tmp 3]) rfl Tryz.ntmps84 (args := [.string ⟨S.toArray⟩]) ?_
  simp (maxSteps := 1000000) (disch := first | omega | (simp only [sizeAlloc, sizeDrew, sizeSet, sizePut] <;> omega) | fail) only [GS, TT_eq, TTl, Nat.reduceAdd, Nat.reduceMul, Nat.reduceSub, Nat.reduceDiv, Nat.reduceMod, Nat.reducePow, Nat.reduceEqDiff, ↓reduceIte, reduceCtorEq, Int.reduceToNat, Int.reduceAdd, Int.reduceSub, Int.reduceMul]
  refine ⟨fok121, rTextA_cps S hS _ _ fun w1 hM1 => .inl ⟨_, rfl, hold_ops okT (rs := [.tmp 2, .tmp 3]) rfl ?_⟩⟩
  cases hi : (textS S).2
  · have hk : ¬ kindS S = 1 := fun h => by
      unfold textS at hi
      rw [if_pos (.inl h)] at hi
      simp at hi
    unfold numT at hR
    rw [if_neg (fun h => hk h.1)] at hR
    unfold nuV at hR
    simp (maxSteps := 1000000) (disch := first | omega | (simp only [sizeAlloc, sizeDrew, sizeSet, sizePut] <;> omega) | fail) only [GS, TT_eq, TTl, Nat.reduceAdd, Nat.reduceMul, Nat.reduceSub, Nat.reduceDiv, Nat.reduceMod, Nat.reducePow, Nat.reduceEqDiff, ↓reduceIte, reduceCtorEq, Int.reduceToNat, Int.reduceAdd, Int.reduceSub, Int.reduceMul]
    exact hR _ hM1
  simp (maxSteps := 1000000) (disch := first | omega | (simp only [sizeAlloc, sizeDrew, sizeSet, sizePut] <;> omega) | fail) only [GS, TT_eq, TTl, Nat.reduceAdd, Nat.reduceMul, Nat.reduceSub, Nat.reduceDiv, Nat.reduceMod, Nat.reducePow, Nat.reduceEqDiff, ↓reduceIte, reduceCtorEq, Int.reduceToNat, Int.reduceAdd, Int.reduceSub, Int.reduceMul]
  refine ⟨fok60, rKindA_cps S hS _ _ fun w2 hM2 => .inl ⟨_, rfl, hold_ops okT (rs := [.tmp 2, .tmp 3]) rfl ?_⟩⟩
  have hM02 := hM1.trans hM2 (by simp)
  by_cases hk : (kindS S : Int) = 1
  rotate_left
  · unfold numT at hR
    rw [if_neg (fun h => hk (by have := h.1; omega))] at hR
    unfold nuV at hR
    simp (maxSteps := 1000000) (disch := first | omega | (simp only [sizeAlloc, sizeDrew, sizeSet, sizePut] <;> omega) | fail) only [GS, TT_eq, TTl, Nat.reduceAdd, Nat.reduceMul, Nat.reduceSub, Nat.reduceDiv, Nat.reduceMod, Nat.reducePow, Nat.reduceEqDiff, ↓reduceIte, reduceCtorEq, Int.reduceToNat, Int.reduceAdd, Int.reduceSub, Int.reduceMul, hk]
    exact hR _ hM02
  simp (maxSteps := 1000000) (disch := first | omega | (simp only [sizeAlloc, sizeDrew, sizeSet, sizePut] <;> omega) | fail) only [GS, TT_eq, TTl, Nat.reduceAdd, Nat.reduceMul, Nat.reduceSub, Nat.reduceDiv, Nat.reduceMod, Nat.reducePow, Nat.reduceEqDiff, ↓reduceIte, reduceCtorEq, Int.reduceToNat, Int.reduceAdd, Int.reduceSub, Int.reduceMul, hk]
  refine ⟨fok122, rReadNum_cps _ hTL _ _ fun w3 hM3 => .inl ⟨_, rfl, hold_ops okT (rs := [.tmp 2, .tmp 3]) rfl ?_⟩⟩
  have hM03 := hM02.trans hM3 (by simp)
  unfold numT at hR
  generalize (textS S).1 = T at hR hTL ⊢
  generalize hq : readNumS T = q at hR ⊢
  obtain ⟨v, n, e⟩ := q
  unfold rnV
  simp only at hR ⊢
  by_cases he : e = 0
  rotate_left
  · rw [if_neg (fun h => he h.2.1)] at hR
    unfold nuV at hR
    simp (maxSteps := 1000000) (disch := first | omega | (simp only [sizeAlloc, sizeDrew, sizeSet, sizePut] <;> omega) | fail) only [GS, TT_eq, TTl, Nat.reduceAdd, Nat.reduceMul, Nat.reduceSub, Nat.reduceDiv, Nat.reduceMod, Nat.reducePow, Nat.reduceEqDiff, ↓reduceIte, reduceCtorEq, Int.reduceToNat, Int.reduceAdd, Int.reduceSub, Int.reduceMul, he]
    exact hR _ hM03
  subst he
  have hb := readNumS_len hq
  by_cases hn : ((n : Nat) : Int) = ((T.length : Nat) : Int)
  rotate_left
  · rw [if_neg (fun h => hn (by have := h.2.2.1; omega))] at hR
    unfold nuV at hR
    simp (maxSteps := 1000000) (disch := first | omega | (simp only [sizeAlloc, sizeDrew, sizeSet, sizePut] <;> omega) | fail) only [GS, TT_eq, TTl, Nat.reduceAdd, Nat.reduceMul, Nat.reduceSub, Nat.reduceDiv, Nat.reduceMod, Nat.reducePow, Nat.reduceEqDiff, ↓reduceIte, reduceCtorEq, Int.reduceToNat, Int.reduceAdd, Int.reduceSub, Int.reduceMul, hn]
    exact hR _ hM03
  by_cases hv : (2147483647 : Int) < ((v : Nat) : Int)
  · rw [if_neg (fun h => by have := h.2.2.2; omega)] at hR
    unfold nuV at hR
    simp (maxSteps := 1000000) (disch := first | omega | (simp only [sizeAlloc, sizeDrew, sizeSet, sizePut] <;> omega) | fail) only [GS, TT_eq, TTl, Nat.reduceAdd, Nat.reduceMul, Nat.reduceSub, Nat.reduceDiv, Nat.reduceMod, Nat.reducePow, Nat.reduceEqDiff, ↓reduceIte, reduceCtorEq, Int.reduceToNat, Int.reduceAdd, Int.reduceSub, Int.reduceMul, hn, hv]
    exact hR _ hM03
  · rw [if_pos ⟨by omega, rfl, by omega, by omega⟩] at hR
    unfold nuV at hR
    simp (maxSteps := 1000000) (disch := first | omega | (simp only [sizeAlloc, sizeDrew, sizeSet, sizePut] <;> omega) | fail) only [GS, TT_eq, TTl, Nat.reduceAdd, Nat.reduceMul, Nat.reduceSub, Nat.reduceDiv, Nat.reduceMod, Nat.reducePow, Nat.reduceEqDiff, ↓reduceIte, reduceCtorEq, Int.reduceToNat, Int.reduceAdd, Int.reduceSub, Int.reduceMul, hn, hv]
    exact hR _ hM03
end Go.Proofs.YthnlmmkhehphiaaGreatDoor
