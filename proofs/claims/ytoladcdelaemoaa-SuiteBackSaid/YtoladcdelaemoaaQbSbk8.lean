/-
  SuiteBack (walk).
-/
import Derived.Test.YtoladcdelaemoaaQbSgp2
set_option linter.unusedSimpArgs false
set_option linter.unusedVariables false
set_option maxRecDepth 20000
namespace Go.Proofs.Ytoladcdelaemoaa
open Go Go.Wk Go.RowKit
attribute [local irreducible] go Hold
open Go.Lib
theorem openT_at {kt : List Int} {k n t x j : Tm} (h : sealG kt .trm k n t = (x, 0)) (hj : checkS j = 0) : openG kt .trm j x = if k = j then (t, 0) else ([], 80) := by
  obtain ⟨hx, h6, hp, _⟩ := seal_is h
  unfold openG
  rw [if_pos (allS_2.2 ⟨hj, hx⟩)]
  show openT j x = _
  unfold openT
  rw [if_pos h6, hp]
  rfl
theorem openT_no {kt : List Int} {k n : Tm} (hk : checkS k = 0) (hn : checkS n = 0) (h : ¬ kindS n = 6) : openG kt .trm k n = ([], 7) := by
  unfold openG
  rw [if_pos (allS_2.2 ⟨hk, hn⟩)]
  show openT k n = _
  unfold openT
  rw [if_neg h]
set_option maxRecDepth 20000 in
set_option maxHeartbeats 16000000 in
theorem back8_cps (kt : List Int) (kd : Nat) (hkd : kd < 256) (ms k j n t : List UInt8) (hms : ms.length ≤ maxLen) (hk : k.length ≤ maxLen) (hj : j.length ≤ maxLen) (hn : n.length ≤ maxLen) (ht : t.length ≤ maxLen)
    (w : World) (hK : KTab w kt) (R : Ending → World → Prop) (hR : ∀ w', Mod [] w w' → R (.returned (.bool true)) w') :
    Calls Try.prog 6 #[.int .u8 kd, .string ⟨ms.toArray⟩, .string ⟨k.toArray⟩, .string ⟨j.toArray⟩, .string ⟨n.toArray⟩, .string ⟨t.toArray⟩] w R := by
  have hal : ∀ w1, Mod [] w w1 → ∀ R' : Ending → World → Prop, (∀ w2, Mod [] w w2 → R' (.returned (.bool true)) w2) → Calls Try.prog 16 #[] w1 R' := fun w1 hM1 R' h => alive8_cps kt w1 (hK.mod hM1 (by simp)) R' fun w2 hM2 => h w2 (hM1.trans hM2 (by simp))
  refine calls_go 4000 okT Try.func6 rfl (rs := [.tmp 12]) rfl Try.ntmps6 (args := [.int .u8 kd, .string ⟨ms.toArray⟩, .string ⟨k.toArray⟩, .string ⟨j.toArray⟩, .string ⟨n.toArray⟩, .string ⟨t.toArray⟩]) ?_
  simp (maxSteps := 1000000) (disch := first | omega | (simp only [sizeAlloc, sizeDrew, sizeSet, sizePut] <;> omega) | fail) only [GS, TT_eq, TTl, Nat.reduceAdd, Nat.reduceMul, Nat.reduceSub, Nat.reduceDiv, Nat.reduceMod, Nat.reducePow, Nat.reduceEqDiff, ↓reduceIte, reduceCtorEq, Int.reduceToNat, Int.reduceAdd, Int.reduceSub, Int.reduceMul]
  refine ⟨fok17, gNew_cps kd hkd ms hms _ _ (fun _ => .inl ⟨_, rfl, hold_ops okT (rs := [.tmp 12]) rfl ?_⟩) fun σ w1 hσ hS1 hM1 => .inl ⟨_, rfl, hold_ops okT (rs := [.tmp 12]) rfl ?_⟩⟩
  · simp (maxSteps := 1000000) (disch := first | omega | (simp only [sizeAlloc, sizeDrew, sizeSet, sizePut] <;> omega) | fail) only [GS, TT_eq, TTl, Nat.reduceAdd, Nat.reduceMul, Nat.reduceSub, Nat.reduceDiv, Nat.reduceMod, Nat.reducePow, Nat.reduceEqDiff, ↓reduceIte, reduceCtorEq, Int.reduceToNat, Int.reduceAdd, Int.reduceSub, Int.reduceMul]
    refine ⟨fok16, hal _ (Mod.refl _ _) _ fun w2 hM2 => .inl ⟨_, rfl, hold_ops okT (rs := [.tmp 12]) rfl ?_⟩⟩
    simp (maxSteps := 1000000) (disch := first | omega | (simp only [sizeAlloc, sizeDrew, sizeSet, sizePut] <;> omega) | fail) only [GS, TT_eq, TTl, Nat.reduceAdd, Nat.reduceMul, Nat.reduceSub, Nat.reduceDiv, Nat.reduceMod, Nat.reducePow, Nat.reduceEqDiff, ↓reduceIte, reduceCtorEq, Int.reduceToNat, Int.reduceAdd, Int.reduceSub, Int.reduceMul]
    exact hR _ hM2
  clear hσ
  generalize w.heap.size = s at *
  simp (maxSteps := 1000000) (disch := first | omega | (simp only [sizeAlloc, sizeDrew, sizeSet, sizePut] <;> omega) | fail) only [GS, TT_eq, TTl, Nat.reduceAdd, Nat.reduceMul, Nat.reduceSub, Nat.reduceDiv, Nat.reduceMod, Nat.reducePow, Nat.reduceEqDiff, ↓reduceIte, reduceCtorEq, Int.reduceToNat, Int.reduceAdd, Int.reduceSub, Int.reduceMul]
  refine ⟨fok18, long8_cps k j n t hk hj hn ht _ _ fun v hv1 => .inl ⟨_, rfl, hold_ops okT (rs := [.tmp 12]) rfl ?_⟩⟩
  cases v
  rotate_left
  · simp (maxSteps := 1000000) (disch := first | omega | (simp only [sizeAlloc, sizeDrew, sizeSet, sizePut] <;> omega) | fail) only [GS, TT_eq, TTl, Nat.reduceAdd, Nat.reduceMul, Nat.reduceSub, Nat.reduceDiv, Nat.reduceMod, Nat.reducePow, Nat.reduceEqDiff, ↓reduceIte, reduceCtorEq, Int.reduceToNat, Int.reduceAdd, Int.reduceSub, Int.reduceMul]
    refine ⟨fok16, hal _ hM1 _ fun w2 hM2 => .inl ⟨_, rfl, hold_ops okT (rs := [.tmp 12]) rfl ?_⟩⟩
    simp (maxSteps := 1000000) (disch := first | omega | (simp only [sizeAlloc, sizeDrew, sizeSet, sizePut] <;> omega) | fail) only [GS, TT_eq, TTl, Nat.reduceAdd, Nat.reduceMul, Nat.reduceSub, Nat.reduceDiv, Nat.reduceMod, Nat.reducePow, Nat.reduceEqDiff, ↓reduceIte, reduceCtorEq, Int.reduceToNat, Int.reduceAdd, Int.reduceSub, Int.reduceMul]
    exact hR _ hM2
  obtain ⟨lk, lj, ln, lt⟩ := hv1 rfl
  clear hv1 hk hj hn ht
  simp (maxSteps := 1000000) (disch := first | omega | (simp only [sizeAlloc, sizeDrew, sizeSet, sizePut] <;> omega) | fail) only [GS, TT_eq, TTl, Nat.reduceAdd, Nat.reduceMul, Nat.reduceSub, Nat.reduceDiv, Nat.reduceMod, Nat.reducePow, Nat.reduceEqDiff, ↓reduceIte, reduceCtorEq, Int.reduceToNat, Int.reduceAdd, Int.reduceSub, Int.reduceMul]
  refine ⟨fok22, gSeal_cps kt σ s k n t (by omega) (by omega) (by omega) _ hS1 (hK.mod hM1 (by simp)) _ fun w2 hN2 => .inl ⟨_, rfl, hold_ops okT (rs := [.tmp 12]) rfl ?_⟩⟩
  replace hS1 := hS1.mod hN2
  replace hM1 := hM1.trans hN2 (by simp)
  have hX := @seal_back kt σ k n t
  have hXe := @sealG_err kt σ k n t
  have hXi := @sealG_in kt σ k n t
  have hXj := @openT_at kt k n t
  generalize hXX : sealG kt σ k n t = X at *
  obtain ⟨x, f⟩ := X
  unfold stV
  by_cases hf : f = 0
  rotate_left
  · have hx0 : x = [] := hXe hf
    simp (maxSteps := 1000000) (disch := first | omega | (simp only [sizeAlloc, sizeDrew, sizeSet, sizePut] <;> omega) | fail) only [GS, TT_eq, TTl, Nat.reduceAdd, Nat.reduceMul, Nat.reduceSub, Nat.reduceDiv, Nat.reduceMod, Nat.reducePow, Nat.reduceEqDiff, ↓reduceIte, reduceCtorEq, Int.reduceToNat, Int.reduceAdd, Int.reduceSub, Int.reduceMul, hf, hx0, eq_self]
    refine ⟨fok16, hal _ hM1 _ fun w3 hM2 => .inl ⟨_, rfl, hold_ops okT (rs := [.tmp 12]) rfl ?_⟩⟩
    simp (maxSteps := 1000000) (disch := first | omega | (simp only [sizeAlloc, sizeDrew, sizeSet, sizePut] <;> omega) | fail) only [GS, TT_eq, TTl, Nat.reduceAdd, Nat.reduceMul, Nat.reduceSub, Nat.reduceDiv, Nat.reduceMod, Nat.reducePow, Nat.reduceEqDiff, ↓reduceIte, reduceCtorEq, Int.reduceToNat, Int.reduceAdd, Int.reduceSub, Int.reduceMul]
    exact hR _ hM2
  subst hf
  obtain ⟨hxo, hxt, hxc, hxl⟩ := hX rfl
  obtain ⟨ck, cn, ct⟩ := hXi rfl
  simp (maxSteps := 1000000) (disch := first | omega | (simp only [sizeAlloc, sizeDrew, sizeSet, sizePut] <;> omega) | fail) only [GS, TT_eq, TTl, Nat.reduceAdd, Nat.reduceMul, Nat.reduceSub, Nat.reduceDiv, Nat.reduceMod, Nat.reducePow, Nat.reduceEqDiff, ↓reduceIte, reduceCtorEq, Int.reduceToNat, Int.reduceAdd, Int.reduceSub, Int.reduceMul]
  refine ⟨fok23, gOpen_cps kt σ s k x (by omega) (by omega) _ hS1 (hK.mod hM1 (by simp)) _ fun w3 hN3 => .inl ⟨_, rfl, hold_ops okT (rs := [.tmp 12]) rfl ?_⟩⟩
  replace hS1 := hS1.mod hN3
  replace hM1 := hM1.trans hN3 (by simp)
  rw [hxo]
  unfold stV
  simp (maxSteps := 1000000) (disch := first | omega | (simp only [sizeAlloc, sizeDrew, sizeSet, sizePut] <;> omega) | fail) only [GS, TT_eq, TTl, Nat.reduceAdd, Nat.reduceMul, Nat.reduceSub, Nat.reduceDiv, Nat.reduceMod, Nat.reducePow, Nat.reduceEqDiff, ↓reduceIte, reduceCtorEq, Int.reduceToNat, Int.reduceAdd, Int.reduceSub, Int.reduceMul, eq_self, hxt]
  refine ⟨fok24, gKind_cps σ s _ hS1 _ fun w4 hN4 => .inl ⟨_, rfl, hold_ops okT (rs := [.tmp 12]) rfl ?_⟩⟩
  replace hS1 := hS1.mod hN4
  replace hM1 := hM1.trans hN4 (by simp)
  cases σ with
  | byt m =>
    rw [show kindG (.byt m) = 2 from rfl]
    simp (maxSteps := 1000000) (disch := first | omega | (simp only [sizeAlloc, sizeDrew, sizeSet, sizePut] <;> omega) | fail) only [GS, TT_eq, TTl, Nat.reduceAdd, Nat.reduceMul, Nat.reduceSub, Nat.reduceDiv, Nat.reduceMod, Nat.reducePow, Nat.reduceEqDiff, ↓reduceIte, reduceCtorEq, Int.reduceToNat, Int.reduceAdd, Int.reduceSub, Int.reduceMul]
    refine ⟨fok16, hal _ hM1 _ fun w5 hM2 => .inl ⟨_, rfl, hold_ops okT (rs := [.tmp 12]) rfl ?_⟩⟩
    simp (maxSteps := 1000000) (disch := first | omega | (simp only [sizeAlloc, sizeDrew, sizeSet, sizePut] <;> omega) | fail) only [GS, TT_eq, TTl, Nat.reduceAdd, Nat.reduceMul, Nat.reduceSub, Nat.reduceDiv, Nat.reduceMod, Nat.reducePow, Nat.reduceEqDiff, ↓reduceIte, reduceCtorEq, Int.reduceToNat, Int.reduceAdd, Int.reduceSub, Int.reduceMul]
    exact hR _ hM2
  | trm =>
    rw [show kindG .trm = 1 from rfl]
    simp (maxSteps := 1000000) (disch := first | omega | (simp only [sizeAlloc, sizeDrew, sizeSet, sizePut] <;> omega) | fail) only [GS, TT_eq, TTl, Nat.reduceAdd, Nat.reduceMul, Nat.reduceSub, Nat.reduceDiv, Nat.reduceMod, Nat.reducePow, Nat.reduceEqDiff, ↓reduceIte, reduceCtorEq, Int.reduceToNat, Int.reduceAdd, Int.reduceSub, Int.reduceMul]
    refine ⟨fok25, tCheck_cps j (by unfold maxLen; omega) _ _ fun w5 hN5 => .inl ⟨_, rfl, hold_ops okT (rs := [.tmp 12]) rfl ?_⟩⟩
    replace hS1 := hS1.mod hN5
    replace hM1 := hM1.trans hN5 (by simp)
    by_cases hcj : checkS j = 0
    rotate_left
    · simp (maxSteps := 1000000) (disch := first | omega | (simp only [sizeAlloc, sizeDrew, sizeSet, sizePut] <;> omega) | fail) only [GS, TT_eq, TTl, Nat.reduceAdd, Nat.reduceMul, Nat.reduceSub, Nat.reduceDiv, Nat.reduceMod, Nat.reducePow, Nat.reduceEqDiff, ↓reduceIte, reduceCtorEq, Int.reduceToNat, Int.reduceAdd, Int.reduceSub, Int.reduceMul, hcj]
      refine ⟨fok16, hal _ hM1 _ fun w5 hM2 => .inl ⟨_, rfl, hold_ops okT (rs := [.tmp 12]) rfl ?_⟩⟩
      simp (maxSteps := 1000000) (disch := first | omega | (simp only [sizeAlloc, sizeDrew, sizeSet, sizePut] <;> omega) | fail) only [GS, TT_eq, TTl, Nat.reduceAdd, Nat.reduceMul, Nat.reduceSub, Nat.reduceDiv, Nat.reduceMod, Nat.reducePow, Nat.reduceEqDiff, ↓reduceIte, reduceCtorEq, Int.reduceToNat, Int.reduceAdd, Int.reduceSub, Int.reduceMul]
      exact hR _ hM2
    have hz := @openT_at kt k n t x j hXX hcj
    simp (maxSteps := 1000000) (disch := first | omega | (simp only [sizeAlloc, sizeDrew, sizeSet, sizePut] <;> omega) | fail) only [GS, TT_eq, TTl, Nat.reduceAdd, Nat.reduceMul, Nat.reduceSub, Nat.reduceDiv, Nat.reduceMod, Nat.reducePow, Nat.reduceEqDiff, ↓reduceIte, reduceCtorEq, Int.reduceToNat, Int.reduceAdd, Int.reduceSub, Int.reduceMul, hcj]
    refine ⟨fok23, gOpen_cps kt .trm s j x (by omega) (by omega) _ hS1 (hK.mod hM1 (by simp)) _ fun w6 hN6 => .inl ⟨_, rfl, hold_ops okT (rs := [.tmp 12]) rfl ?_⟩⟩
    replace hS1 := hS1.mod hN6
    replace hM1 := hM1.trans hN6 (by simp)
    rw [hz]
    have rest : True := trivial
    by_cases hkj : k = j
    · rw [if_pos hkj]
      unfold stV
      have hjk := hkj.symm
      subst hkj
      simp (maxSteps := 1000000) (disch := first | omega | (simp only [sizeAlloc, sizeDrew, sizeSet, sizePut] <;> omega) | fail) only [GS, TT_eq, TTl, Nat.reduceAdd, Nat.reduceMul, Nat.reduceSub, Nat.reduceDiv, Nat.reduceMod, Nat.reducePow, Nat.reduceEqDiff, ↓reduceIte, reduceCtorEq, Int.reduceToNat, Int.reduceAdd, Int.reduceSub, Int.reduceMul, eq_self]
      refine ⟨fok23, gOpen_cps kt .trm s k n (by omega) (by omega) _ hS1 (hK.mod hM1 (by simp)) _ fun w7 hN7 => .inl ⟨_, rfl, hold_ops okT (rs := [.tmp 12]) rfl ?_⟩⟩
      replace hM1 := hM1.trans hN7 (by simp)
      have hno := @openT_no kt k n ck cn
      generalize openG kt .trm k n = Y at *
      obtain ⟨y, ye⟩ := Y
      unfold stV
      simp (maxSteps := 1000000) (disch := first | omega | (simp only [sizeAlloc, sizeDrew, sizeSet, sizePut] <;> omega) | fail) only [GS, TT_eq, TTl, Nat.reduceAdd, Nat.reduceMul, Nat.reduceSub, Nat.reduceDiv, Nat.reduceMod, Nat.reducePow, Nat.reduceEqDiff, ↓reduceIte, reduceCtorEq, Int.reduceToNat, Int.reduceAdd, Int.reduceSub, Int.reduceMul]
      refine ⟨fok26, tKind_cps n (by unfold maxLen; omega) _ _ fun w8 hN8 => .inl ⟨_, rfl, hold_ops okT (rs := [.tmp 12]) rfl ?_⟩⟩
      replace hM1 := hM1.trans hN8 (by simp)
      by_cases h6 : kindS n = 6
      · rw [h6]
        simp (maxSteps := 1000000) (disch := first | omega | (simp only [sizeAlloc, sizeDrew, sizeSet, sizePut] <;> omega) | fail) only [GS, TT_eq, TTl, Nat.reduceAdd, Nat.reduceMul, Nat.reduceSub, Nat.reduceDiv, Nat.reduceMod, Nat.reducePow, Nat.reduceEqDiff, ↓reduceIte, reduceCtorEq, Int.reduceToNat, Int.reduceAdd, Int.reduceSub, Int.reduceMul]
        refine ⟨fok16, hal _ hM1 _ fun w9 hM2 => .inl ⟨_, rfl, hold_ops okT (rs := [.tmp 12]) rfl ?_⟩⟩
        simp (maxSteps := 1000000) (disch := first | omega | (simp only [sizeAlloc, sizeDrew, sizeSet, sizePut] <;> omega) | fail) only [GS, TT_eq, TTl, Nat.reduceAdd, Nat.reduceMul, Nat.reduceSub, Nat.reduceDiv, Nat.reduceMod, Nat.reducePow, Nat.reduceEqDiff, ↓reduceIte, reduceCtorEq, Int.reduceToNat, Int.reduceAdd, Int.reduceSub, Int.reduceMul]
        exact hR _ hM2
      · have hy := congrArg Prod.snd (hno h6)
        simp only at hy
        subst hy
        simp (maxSteps := 1000000) (disch := first | omega | (simp only [sizeAlloc, sizeDrew, sizeSet, sizePut] <;> omega) | fail) only [GS, TT_eq, TTl, Nat.reduceAdd, Nat.reduceMul, Nat.reduceSub, Nat.reduceDiv, Nat.reduceMod, Nat.reducePow, Nat.reduceEqDiff, ↓reduceIte, reduceCtorEq, Int.reduceToNat, Int.reduceAdd, Int.reduceSub, Int.reduceMul]
        refine ⟨fok16, hal _ hM1 _ fun w9 hM2 => .inl ⟨_, rfl, hold_ops okT (rs := [.tmp 12]) rfl ?_⟩⟩
        simp (maxSteps := 1000000) (disch := first | omega | (simp only [sizeAlloc, sizeDrew, sizeSet, sizePut] <;> omega) | fail) only [GS, TT_eq, TTl, Nat.reduceAdd, Nat.reduceMul, Nat.reduceSub, Nat.reduceDiv, Nat.reduceMod, Nat.reducePow, Nat.reduceEqDiff, ↓reduceIte, reduceCtorEq, Int.reduceToNat, Int.reduceAdd, Int.reduceSub, Int.reduceMul]
        exact hR _ hM2
    · rw [if_neg hkj]
      unfold stV
      have hjk : ¬ j = k := fun e => hkj e.symm
      simp (maxSteps := 1000000) (disch := first | omega | (simp only [sizeAlloc, sizeDrew, sizeSet, sizePut] <;> omega) | fail) only [GS, TT_eq, TTl, Nat.reduceAdd, Nat.reduceMul, Nat.reduceSub, Nat.reduceDiv, Nat.reduceMod, Nat.reducePow, Nat.reduceEqDiff, ↓reduceIte, reduceCtorEq, Int.reduceToNat, Int.reduceAdd, Int.reduceSub, Int.reduceMul, hjk, eq_self]
      refine ⟨fok23, gOpen_cps kt .trm s k n (by omega) (by omega) _ hS1 (hK.mod hM1 (by simp)) _ fun w7 hN7 => .inl ⟨_, rfl, hold_ops okT (rs := [.tmp 12]) rfl ?_⟩⟩
      replace hM1 := hM1.trans hN7 (by simp)
      have hno := @openT_no kt k n ck cn
      generalize openG kt .trm k n = Y at *
      obtain ⟨y, ye⟩ := Y
      unfold stV
      simp (maxSteps := 1000000) (disch := first | omega | (simp only [sizeAlloc, sizeDrew, sizeSet, sizePut] <;> omega) | fail) only [GS, TT_eq, TTl, Nat.reduceAdd, Nat.reduceMul, Nat.reduceSub, Nat.reduceDiv, Nat.reduceMod, Nat.reducePow, Nat.reduceEqDiff, ↓reduceIte, reduceCtorEq, Int.reduceToNat, Int.reduceAdd, Int.reduceSub, Int.reduceMul]
      refine ⟨fok26, tKind_cps n (by unfold maxLen; omega) _ _ fun w8 hN8 => .inl ⟨_, rfl, hold_ops okT (rs := [.tmp 12]) rfl ?_⟩⟩
      replace hM1 := hM1.trans hN8 (by simp)
      by_cases h6 : kindS n = 6
      · rw [h6]
        simp (maxSteps := 1000000) (disch := first | omega | (simp only [sizeAlloc, sizeDrew, sizeSet, sizePut] <;> omega) | fail) only [GS, TT_eq, TTl, Nat.reduceAdd, Nat.reduceMul, Nat.reduceSub, Nat.reduceDiv, Nat.reduceMod, Nat.reducePow, Nat.reduceEqDiff, ↓reduceIte, reduceCtorEq, Int.reduceToNat, Int.reduceAdd, Int.reduceSub, Int.reduceMul]
        refine ⟨fok16, hal _ hM1 _ fun w9 hM2 => .inl ⟨_, rfl, hold_ops okT (rs := [.tmp 12]) rfl ?_⟩⟩
        simp (maxSteps := 1000000) (disch := first | omega | (simp only [sizeAlloc, sizeDrew, sizeSet, sizePut] <;> omega) | fail) only [GS, TT_eq, TTl, Nat.reduceAdd, Nat.reduceMul, Nat.reduceSub, Nat.reduceDiv, Nat.reduceMod, Nat.reducePow, Nat.reduceEqDiff, ↓reduceIte, reduceCtorEq, Int.reduceToNat, Int.reduceAdd, Int.reduceSub, Int.reduceMul]
        exact hR _ hM2
      · have hy := congrArg Prod.snd (hno h6)
        simp only at hy
        subst hy
        simp (maxSteps := 1000000) (disch := first | omega | (simp only [sizeAlloc, sizeDrew, sizeSet, sizePut] <;> omega) | fail) only [GS, TT_eq, TTl, Nat.reduceAdd, Nat.reduceMul, Nat.reduceSub, Nat.reduceDiv, Nat.reduceMod, Nat.reducePow, Nat.reduceEqDiff, ↓reduceIte, reduceCtorEq, Int.reduceToNat, Int.reduceAdd, Int.reduceSub, Int.reduceMul]
        refine ⟨fok16, hal _ hM1 _ fun w9 hM2 => .inl ⟨_, rfl, hold_ops okT (rs := [.tmp 12]) rfl ?_⟩⟩
        simp (maxSteps := 1000000) (disch := first | omega | (simp only [sizeAlloc, sizeDrew, sizeSet, sizePut] <;> omega) | fail) only [GS, TT_eq, TTl, Nat.reduceAdd, Nat.reduceMul, Nat.reduceSub, Nat.reduceDiv, Nat.reduceMod, Nat.reducePow, Nat.reduceEqDiff, ↓reduceIte, reduceCtorEq, Int.reduceToNat, Int.reduceAdd, Int.reduceSub, Int.reduceMul]
        exact hR _ hM2
end Go.Proofs.Ytoladcdelaemoaa
