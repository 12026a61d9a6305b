/-
  The chapter's examples, of suites (walk).
-/
import Derived.Test.YtoladcdelaemoaaQeNon1
set_option linter.unusedSimpArgs false
set_option linter.unusedVariables false
set_option maxRecDepth 20000
namespace Go.Proofs.Ytoladcdelaemoaa
open Go Go.Wk Go.RowKit
attribute [local irreducible] go Hold
open Go.Lib
def K8 : List UInt8 := [97, 1, 107]
def J8 : List UInt8 := [97, 1, 106]
def T8 : List UInt8 := [100, 0]
def N8 : List UInt8 := [100, 12, 0, 0, 0, 1, 0, 0, 0, 2, 0, 0, 0, 3]
def X8 : List UInt8 := 115 :: (K8 ++ N8 ++ T8)
theorem a8k : atomS [107] = (K8, 0) := by decide +kernel
theorem a8j : atomS [106] = (J8, 0) := by decide +kernel
theorem a8t : dataS [] = (T8, 0) := by decide +kernel
theorem a8n : nonS [((1 : Nat) : Int), ((2 : Nat) : Int), ((3 : Nat) : Int)] = (N8, 0) := by decide +kernel
theorem a8x (kt : List Int) : sealG kt .trm K8 N8 T8 = (X8, 0) := by
  have : (if allS [K8, N8, T8] = true then madeS [115] [K8, N8, T8] else ([], 2)) = (X8, 0) := by decide +kernel
  exact this
theorem a8y (kt : List Int) : openG kt .trm K8 X8 = (T8, 0) := by
  have : (if allS [K8, X8] = true then openT K8 X8 else ([], 2)) = (T8, 0) := by decide +kernel
  exact this
theorem a8z (kt : List Int) : openG kt .trm J8 X8 = ([], 80) := by
  have : (if allS [J8, X8] = true then openT J8 X8 else ([], 2)) = ([], 80) := by decide +kernel
  exact this
theorem a8m (kt : List Int) (m : List UInt8) : macG kt (.byt m) K8 T8 = ([], 2) := by
  have h1 : allS [K8, T8] = true := by decide +kernel
  have h2 : ¬ kindS K8 = 1 := by decide +kernel
  unfold macG
  rw [if_pos h1]
  show macBy kt K8 T8 = _
  unfold macBy
  rw [if_neg h2]
theorem a8h (kt : List Int) (m : List UInt8) : ∃ u, hashG kt (.byt m) T8 = (u, 0) ∧ u.length = 34 := by
  have h1 : allS [T8] = true := by decide +kernel
  refine ⟨100 :: (numL 32 ++ shF kt T8), ?_, ?_⟩
  · unfold hashG
    rw [if_pos h1]
    show hashBy kt T8 = _
    unfold hashBy dataS
    rw [shF_len, if_neg (by decide)]
  · rw [List.length_cons, List.length_append, shF_len]; rfl
theorem a8w : textS N8 = ([0, 0, 0, 1, 0, 0, 0, 2, 0, 0, 0, 3], true) := by decide +kernel
set_option maxRecDepth 20000 in
set_option maxHeartbeats 16000000 in
theorem alive8_cps (kt : List Int) (w : World) (hK : KTab w kt) (R : Ending → World → Prop) (hR : ∀ w', Mod [] w w' → R (.returned (.bool true)) w') : Calls Try.prog 16 #[] w R := by
  refine calls_go 4000 okT Try.func16 rfl (rs := [.tmp 0]) rfl Try.ntmps16 (args := []) ?_
  simp (maxSteps := 1000000) (disch := first | omega | (simp only [sizeAlloc, sizeDrew, sizeSet, sizePut] <;> omega) | fail) only [GS, TT_eq, TTl, Nat.reduceAdd, Nat.reduceMul, Nat.reduceSub, Nat.reduceDiv, Nat.reduceMod, Nat.reducePow, Nat.reduceEqDiff, ↓reduceIte, reduceCtorEq, Int.reduceToNat, Int.reduceAdd, Int.reduceSub, Int.reduceMul]
  refine ⟨fok17, gNew_cps 1 (by omega) [] (by decide) _ _ (fun h => by simp [sutN] at h) fun σ w1 hσ hS1 hM1 => .inl ⟨_, rfl, hold_ops okT (rs := [.tmp 0]) rfl ?_⟩⟩
  obtain rfl : σ = .trm := by simp [sutN] at hσ; exact hσ.symm
  simp (maxSteps := 1000000) (disch := first | omega | (simp only [sizeAlloc, sizeDrew, sizeSet, sizePut] <;> omega) | fail) only [GS, TT_eq, TTl, Nat.reduceAdd, Nat.reduceMul, Nat.reduceSub, Nat.reduceDiv, Nat.reduceMod, Nat.reducePow, Nat.reduceEqDiff, ↓reduceIte, reduceCtorEq, Int.reduceToNat, Int.reduceAdd, Int.reduceSub, Int.reduceMul]
  refine ⟨fok17, gNew_cps 2 (by omega) [109] (by decide) _ _ (fun h => by simp [sutN] at h) fun σ w2 hσ hS2 hM2 => .inl ⟨_, rfl, hold_ops okT (rs := [.tmp 0]) rfl ?_⟩⟩
  obtain rfl : σ = .byt [109] := by simp [sutN] at hσ; exact hσ.symm
  replace hS1 := hS1.mod hM2
  replace hM2 := hM1.trans hM2 (by simp)
  clear hM1 hσ
  generalize w.heap.size = s at *
  generalize w1.heap.size = b at *
  simp (maxSteps := 1000000) (disch := first | omega | (simp only [sizeAlloc, sizeDrew, sizeSet, sizePut] <;> omega) | fail) only [GS, TT_eq, TTl, Nat.reduceAdd, Nat.reduceMul, Nat.reduceSub, Nat.reduceDiv, Nat.reduceMod, Nat.reducePow, Nat.reduceEqDiff, ↓reduceIte, reduceCtorEq, Int.reduceToNat, Int.reduceAdd, Int.reduceSub, Int.reduceMul]
  refine ⟨fok17, gNew_cps 3 (by omega) [109] (by decide) _ _ (fun _ => .inl ⟨_, rfl, hold_ops okT (rs := [.tmp 0]) rfl ?_⟩) fun σ w3 hσ => by simp [sutN] at hσ⟩
  simp (maxSteps := 1000000) (disch := first | omega | (simp only [sizeAlloc, sizeDrew, sizeSet, sizePut] <;> omega) | fail) only [GS, TT_eq, TTl, Nat.reduceAdd, Nat.reduceMul, Nat.reduceSub, Nat.reduceDiv, Nat.reduceMod, Nat.reducePow, Nat.reduceEqDiff, ↓reduceIte, reduceCtorEq, Int.reduceToNat, Int.reduceAdd, Int.reduceSub, Int.reduceMul]
  refine ⟨fok19, gKey_cps kt .trm s [107] (by decide) w2 hS1 (hK.mod hM2 (by simp)) _ fun w5 hN5 => .inl ⟨_, rfl, hold_ops okT (rs := [.tmp 0]) rfl ?_⟩⟩
  replace hS1 := hS1.mod hN5
  replace hS2 := hS2.mod hN5
  have hM5 := hM2.trans hN5 (by simp)
  rw [show keyG kt .trm [107] = (K8, 0) from a8k]
  unfold stV
  simp (maxSteps := 1000000) (disch := first | omega | (simp only [sizeAlloc, sizeDrew, sizeSet, sizePut] <;> omega) | fail) only [GS, TT_eq, TTl, Nat.reduceAdd, Nat.reduceMul, Nat.reduceSub, Nat.reduceDiv, Nat.reduceMod, Nat.reducePow, Nat.reduceEqDiff, ↓reduceIte, reduceCtorEq, Int.reduceToNat, Int.reduceAdd, Int.reduceSub, Int.reduceMul]
  refine ⟨fok19, gKey_cps kt .trm s [106] (by decide) w5 hS1 (hK.mod hM5 (by simp)) _ fun w6 hN6 => .inl ⟨_, rfl, hold_ops okT (rs := [.tmp 0]) rfl ?_⟩⟩
  replace hS1 := hS1.mod hN6
  replace hS2 := hS2.mod hN6
  have hM6 := hM5.trans hN6 (by simp)
  rw [show keyG kt .trm [106] = (J8, 0) from a8j]
  unfold stV
  simp (maxSteps := 1000000) (disch := first | omega | (simp only [sizeAlloc, sizeDrew, sizeSet, sizePut] <;> omega) | fail) only [GS, TT_eq, TTl, Nat.reduceAdd, Nat.reduceMul, Nat.reduceSub, Nat.reduceDiv, Nat.reduceMod, Nat.reducePow, Nat.reduceEqDiff, ↓reduceIte, reduceCtorEq, Int.reduceToNat, Int.reduceAdd, Int.reduceSub, Int.reduceMul]
  refine ⟨fok30, tData_cps [] (by decide) w6 _ fun w7 hN7 => .inl ⟨_, rfl, hold_ops okT (rs := [.tmp 0]) rfl ?_⟩⟩
  replace hS1 := hS1.mod hN7
  replace hS2 := hS2.mod hN7
  have hM7 := hM6.trans hN7 (by simp)
  rw [a8t]
  unfold stV
  simp (maxSteps := 1000000) (disch := first | omega | (simp only [sizeAlloc, sizeDrew, sizeSet, sizePut] <;> omega) | fail) only [GS, TT_eq, TTl, Nat.reduceAdd, Nat.reduceMul, Nat.reduceSub, Nat.reduceDiv, Nat.reduceMod, Nat.reducePow, Nat.reduceEqDiff, ↓reduceIte, reduceCtorEq, Int.reduceToNat, Int.reduceAdd, Int.reduceSub, Int.reduceMul]
  refine ⟨fok14, sNonce_cps ((1 : Nat) : Int) ((2 : Nat) : Int) ((3 : Nat) : Int) (by omega) (by omega) (by omega) w7 _ fun w8 hN8 => .inl ⟨_, rfl, hold_ops okT (rs := [.tmp 0]) rfl ?_⟩⟩
  replace hS1 := hS1.mod hN8
  replace hS2 := hS2.mod hN8
  have hM8 := hM7.trans hN8 (by simp)
  rw [a8n]
  unfold stV
  simp (maxSteps := 1000000) (disch := first | omega | (simp only [sizeAlloc, sizeDrew, sizeSet, sizePut] <;> omega) | fail) only [GS, TT_eq, TTl, Nat.reduceAdd, Nat.reduceMul, Nat.reduceSub, Nat.reduceDiv, Nat.reduceMod, Nat.reducePow, Nat.reduceEqDiff, ↓reduceIte, reduceCtorEq, Int.reduceToNat, Int.reduceAdd, Int.reduceSub, Int.reduceMul]
  refine ⟨fok22, gSeal_cps kt .trm s K8 N8 T8 (by decide) (by decide) (by decide) w8 hS1 (hK.mod hM8 (by simp)) _ fun w9 hN9 => .inl ⟨_, rfl, hold_ops okT (rs := [.tmp 0]) rfl ?_⟩⟩
  replace hS1 := hS1.mod hN9
  replace hS2 := hS2.mod hN9
  have hM9 := hM8.trans hN9 (by simp)
  rw [a8x]
  unfold stV
  simp (maxSteps := 1000000) (disch := first | omega | (simp only [sizeAlloc, sizeDrew, sizeSet, sizePut] <;> omega) | fail) only [GS, TT_eq, TTl, Nat.reduceAdd, Nat.reduceMul, Nat.reduceSub, Nat.reduceDiv, Nat.reduceMod, Nat.reducePow, Nat.reduceEqDiff, ↓reduceIte, reduceCtorEq, Int.reduceToNat, Int.reduceAdd, Int.reduceSub, Int.reduceMul]
  refine ⟨fok23, gOpen_cps kt .trm s K8 X8 (by decide) (by decide) w9 hS1 (hK.mod hM9 (by simp)) _ fun w10 hN10 => .inl ⟨_, rfl, hold_ops okT (rs := [.tmp 0]) rfl ?_⟩⟩
  replace hS1 := hS1.mod hN10
  replace hS2 := hS2.mod hN10
  have hM10 := hM9.trans hN10 (by simp)
  rw [a8y]
  unfold stV
  simp (maxSteps := 1000000) (disch := first | omega | (simp only [sizeAlloc, sizeDrew, sizeSet, sizePut] <;> omega) | fail) only [GS, TT_eq, TTl, Nat.reduceAdd, Nat.reduceMul, Nat.reduceSub, Nat.reduceDiv, Nat.reduceMod, Nat.reducePow, Nat.reduceEqDiff, ↓reduceIte, reduceCtorEq, Int.reduceToNat, Int.reduceAdd, Int.reduceSub, Int.reduceMul]
  refine ⟨fok23, gOpen_cps kt .trm s J8 X8 (by decide) (by decide) w10 hS1 (hK.mod hM10 (by simp)) _ fun w11 hN11 => .inl ⟨_, rfl, hold_ops okT (rs := [.tmp 0]) rfl ?_⟩⟩
  replace hS1 := hS1.mod hN11
  replace hS2 := hS2.mod hN11
  have hM11 := hM10.trans hN11 (by simp)
  rw [a8z]
  unfold stV
  simp (maxSteps := 1000000) (disch := first | omega | (simp only [sizeAlloc, sizeDrew, sizeSet, sizePut] <;> omega) | fail) only [GS, TT_eq, TTl, Nat.reduceAdd, Nat.reduceMul, Nat.reduceSub, Nat.reduceDiv, Nat.reduceMod, Nat.reducePow, Nat.reduceEqDiff, ↓reduceIte, reduceCtorEq, Int.reduceToNat, Int.reduceAdd, Int.reduceSub, Int.reduceMul]
  refine ⟨fok21, gMac_cps kt (.byt [109]) b K8 T8 (by decide) (by decide) w11 hS2 (hK.mod hM11 (by simp)) _ fun w12 hN12 => .inl ⟨_, rfl, hold_ops okT (rs := [.tmp 0]) rfl ?_⟩⟩
  replace hS1 := hS1.mod hN12
  replace hS2 := hS2.mod hN12
  have hM12 := hM11.trans hN12 (by simp)
  rw [a8m]
  unfold stV
  simp (maxSteps := 1000000) (disch := first | omega | (simp only [sizeAlloc, sizeDrew, sizeSet, sizePut] <;> omega) | fail) only [GS, TT_eq, TTl, Nat.reduceAdd, Nat.reduceMul, Nat.reduceSub, Nat.reduceDiv, Nat.reduceMod, Nat.reducePow, Nat.reduceEqDiff, ↓reduceIte, reduceCtorEq, Int.reduceToNat, Int.reduceAdd, Int.reduceSub, Int.reduceMul]
  obtain ⟨u, eu, hul⟩ := a8h kt [109]
  refine ⟨fok20, gHash_cps kt (.byt [109]) b T8 (by decide) w12 hS2 (hK.mod hM12 (by simp)) _ fun w13 hN13 => .inl ⟨_, rfl, hold_ops okT (rs := [.tmp 0]) rfl ?_⟩⟩
  replace hS1 := hS1.mod hN13
  replace hS2 := hS2.mod hN13
  have hM13 := hM12.trans hN13 (by simp)
  rw [eu]
  unfold stV
  simp (maxSteps := 1000000) (disch := first | omega | (simp only [sizeAlloc, sizeDrew, sizeSet, sizePut] <;> omega) | fail) only [GS, TT_eq, TTl, Nat.reduceAdd, Nat.reduceMul, Nat.reduceSub, Nat.reduceDiv, Nat.reduceMod, Nat.reducePow, Nat.reduceEqDiff, ↓reduceIte, reduceCtorEq, Int.reduceToNat, Int.reduceAdd, Int.reduceSub, Int.reduceMul]
  refine ⟨fok44, tText_cps N8 (by decide) w13 _ fun w14 hN14 => .inl ⟨_, rfl, hold_ops okT (rs := [.tmp 0]) rfl ?_⟩⟩
  replace hS1 := hS1.mod hN14
  replace hS2 := hS2.mod hN14
  have hM14 := hM13.trans hN14 (by simp)
  rw [a8w]
  have hl := hul
  simp (maxSteps := 1000000) (disch := first | omega | (simp only [sizeAlloc, sizeDrew, sizeSet, sizePut] <;> omega) | fail) only [GS, TT_eq, TTl, Nat.reduceAdd, Nat.reduceMul, Nat.reduceSub, Nat.reduceDiv, Nat.reduceMod, Nat.reducePow, Nat.reduceEqDiff, ↓reduceIte, reduceCtorEq, Int.reduceToNat, Int.reduceAdd, Int.reduceSub, Int.reduceMul, hul, eq_self]
  exact hR _ hM14
end Go.Proofs.Ytoladcdelaemoaa
