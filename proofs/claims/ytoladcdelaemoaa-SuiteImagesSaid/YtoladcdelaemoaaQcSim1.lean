/-
  SuiteImages (walk).
-/
import Derived.Test.YtoladcdelaemoaaQcImg2
set_option linter.unusedSimpArgs false
set_option linter.unusedVariables false
set_option maxRecDepth 20000
namespace Go.Proofs.Ytoladcdelaemoaa
open Go Go.Wk Go.RowKit
attribute [local irreducible] go Hold
open Go.Lib
/-- Several ways, one rest: of the frame here only the slots 'ls' are kept in mind, of those of 'ws' nothing. -/
theorem shareI {P : Program} {T : Tab} {V : Env} {R : Ending → World → Prop} {F : Exit → Act → World → Prop} {c : Cfg} {k : List KI} {fs : List Value} {w : World} (c2 : Cfg) (k2 : List KI) (ls ws : List Nat) (I : List Value → World → Prop)
    (h1 : (∀ vs w J, I vs w → Hold P T V R F c2 k2 (sets (havoc fs J ws) ls vs) w) → Hold P T V R F c k fs w) (h2 : ∀ vs w J, I vs w → Hold P T V R F c2 k2 (sets (havoc fs J ws) ls vs) w) : Hold P T V R F c k fs w := h1 h2
set_option maxRecDepth 20000 in
set_option maxHeartbeats 32000000 in
theorem images8_cps (kt : List Int) (ms nm k n t : List UInt8) (hms : ms.length ≤ maxLen) (hnm : nm.length ≤ maxLen) (hk : k.length ≤ maxLen) (hn : n.length ≤ maxLen) (ht : t.length ≤ maxLen)
    (w : World) (hK : KTab w kt) (R : Ending → World → Prop) (hR : ∀ w', Mod [] w w' → R (.returned (.bool true)) w') :
    Calls Try.prog 7 #[.string ⟨ms.toArray⟩, .string ⟨nm.toArray⟩, .string ⟨k.toArray⟩, .string ⟨n.toArray⟩, .string ⟨t.toArray⟩] w R := by
  have hal : ∀ w1, Mod [] w w1 → ∀ R' : Ending → World → Prop, (∀ w2, Mod [] w w2 → R' (.returned (.bool true)) w2) → Calls Try.prog 16 #[] w1 R' := fun w1 hM1 R' h => alive8_cps kt w1 (hK.mod hM1 (by simp)) R' fun w2 hM2 => h w2 (hM1.trans hM2 (by simp))
  refine calls_go 4000 okT Try.func7 rfl (rs := [.tmp 10]) rfl Try.ntmps7 (args := [.string ⟨ms.toArray⟩, .string ⟨nm.toArray⟩, .string ⟨k.toArray⟩, .string ⟨n.toArray⟩, .string ⟨t.toArray⟩]) ?_
  simp (maxSteps := 1000000) (disch := first | omega | (simp only [sizeAlloc, sizeDrew, sizeSet, sizePut] <;> omega) | fail) only [GS, TT_eq, TTl, Nat.reduceAdd, Nat.reduceMul, Nat.reduceSub, Nat.reduceDiv, Nat.reduceMod, Nat.reducePow, Nat.reduceEqDiff, ↓reduceIte, reduceCtorEq, Int.reduceToNat, Int.reduceAdd, Int.reduceSub, Int.reduceMul]
  refine ⟨fok17, gNew_cps 1 (by omega) [] (by decide) _ _ (fun h => by simp [sutN] at h) fun σ w1 hσ hS1 hM1 => .inl ⟨_, rfl, hold_ops okT (rs := [.tmp 10]) rfl ?_⟩⟩
  obtain rfl : σ = .trm := by simp [sutN] at hσ; exact hσ.symm
  clear hσ
  generalize w.heap.size = s at *
  simp (maxSteps := 1000000) (disch := first | omega | (simp only [sizeAlloc, sizeDrew, sizeSet, sizePut] <;> omega) | fail) only [GS, TT_eq, TTl, Nat.reduceAdd, Nat.reduceMul, Nat.reduceSub, Nat.reduceDiv, Nat.reduceMod, Nat.reducePow, Nat.reduceEqDiff, ↓reduceIte, reduceCtorEq, Int.reduceToNat, Int.reduceAdd, Int.reduceSub, Int.reduceMul]
  refine ⟨fok17, gNew_cps 2 (by omega) ms hms _ _ (fun _ => .inl ⟨_, rfl, hold_ops okT (rs := [.tmp 10]) rfl ?_⟩) fun σ w2 hσ hS2 hM2 => .inl ⟨_, rfl, hold_ops okT (rs := [.tmp 10]) rfl ?_⟩⟩
  · simp (maxSteps := 1000000) (disch := first | omega | (simp only [sizeAlloc, sizeDrew, sizeSet, sizePut] <;> omega) | fail) only [GS, TT_eq, TTl, Nat.reduceAdd, Nat.reduceMul, Nat.reduceSub, Nat.reduceDiv, Nat.reduceMod, Nat.reducePow, Nat.reduceEqDiff, ↓reduceIte, reduceCtorEq, Int.reduceToNat, Int.reduceAdd, Int.reduceSub, Int.reduceMul]
    refine ⟨fok16, hal _ hM1 _ fun w2 hM2 => .inl ⟨_, rfl, hold_ops okT (rs := [.tmp 10]) rfl ?_⟩⟩
    simp (maxSteps := 1000000) (disch := first | omega | (simp only [sizeAlloc, sizeDrew, sizeSet, sizePut] <;> omega) | fail) only [GS, TT_eq, TTl, Nat.reduceAdd, Nat.reduceMul, Nat.reduceSub, Nat.reduceDiv, Nat.reduceMod, Nat.reducePow, Nat.reduceEqDiff, ↓reduceIte, reduceCtorEq, Int.reduceToNat, Int.reduceAdd, Int.reduceSub, Int.reduceMul]
    exact hR _ hM2
  obtain ⟨m, rfl⟩ : ∃ m, σ = .byt m := by
    unfold sutN at hσ
    rw [if_neg (by decide)] at hσ
    split at hσ
    · exact ⟨ms, (Option.some.inj hσ).symm⟩
    · cases hσ
  clear hσ
  replace hS1 := hS1.mod hM2
  replace hM1 := hM1.trans hM2 (by simp)
  clear hM2
  generalize w1.heap.size = b at *
  simp (maxSteps := 1000000) (disch := first | omega | (simp only [sizeAlloc, sizeDrew, sizeSet, sizePut] <;> omega) | fail) only [GS, TT_eq, TTl, Nat.reduceAdd, Nat.reduceMul, Nat.reduceSub, Nat.reduceDiv, Nat.reduceMod, Nat.reducePow, Nat.reduceEqDiff, ↓reduceIte, reduceCtorEq, Int.reduceToNat, Int.reduceAdd, Int.reduceSub, Int.reduceMul]
  refine ⟨fok18, long8_cps k n t nm hk hn ht hnm _ _ fun v hv1 => .inl ⟨_, rfl, hold_ops okT (rs := [.tmp 10]) rfl ?_⟩⟩
  cases v
  rotate_left
  · simp (maxSteps := 1000000) (disch := first | omega | (simp only [sizeAlloc, sizeDrew, sizeSet, sizePut] <;> omega) | fail) only [GS, TT_eq, TTl, Nat.reduceAdd, Nat.reduceMul, Nat.reduceSub, Nat.reduceDiv, Nat.reduceMod, Nat.reducePow, Nat.reduceEqDiff, ↓reduceIte, reduceCtorEq, Int.reduceToNat, Int.reduceAdd, Int.reduceSub, Int.reduceMul]
    refine ⟨fok16, hal _ hM1 _ fun w2 hM2 => .inl ⟨_, rfl, hold_ops okT (rs := [.tmp 10]) rfl ?_⟩⟩
    simp (maxSteps := 1000000) (disch := first | omega | (simp only [sizeAlloc, sizeDrew, sizeSet, sizePut] <;> omega) | fail) only [GS, TT_eq, TTl, Nat.reduceAdd, Nat.reduceMul, Nat.reduceSub, Nat.reduceDiv, Nat.reduceMod, Nat.reducePow, Nat.reduceEqDiff, ↓reduceIte, reduceCtorEq, Int.reduceToNat, Int.reduceAdd, Int.reduceSub, Int.reduceMul]
    exact hR _ hM2
  obtain ⟨lk, ln, lt, lnm⟩ := hv1 rfl
  clear hv1 hk hn ht hnm
  simp (maxSteps := 1000000) (disch := first | omega | (simp only [sizeAlloc, sizeDrew, sizeSet, sizePut] <;> omega) | fail) only [GS, TT_eq, TTl, Nat.reduceAdd, Nat.reduceMul, Nat.reduceSub, Nat.reduceDiv, Nat.reduceMod, Nat.reducePow, Nat.reduceEqDiff, ↓reduceIte, reduceCtorEq, Int.reduceToNat, Int.reduceAdd, Int.reduceSub, Int.reduceMul]
  refine ⟨fok19, gKey_cps kt .trm s nm (by unfold maxLen; omega) _ hS1 (hK.mod hM1 (by simp)) _ fun w3 hN3 => .inl ⟨_, rfl, hold_ops okT (rs := [.tmp 10]) rfl ?_⟩⟩
  replace hS1 := hS1.mod hN3
  replace hS2 := hS2.mod hN3
  replace hM1 := hM1.trans hN3 (by simp)
  have hki := @key_img kt m nm
  have hke := @key_err kt m nm
  have hkl := keyG_len kt .trm nm
  rw [show keyG kt .trm nm = atomS nm from rfl] at hkl ⊢
  generalize atomS nm = A at *
  obtain ⟨a, g⟩ := A
  unfold stV
  simp (maxSteps := 1000000) (disch := first | omega | (simp only [sizeAlloc, sizeDrew, sizeSet, sizePut] <;> omega) | fail) only [GS, TT_eq, TTl, Nat.reduceAdd, Nat.reduceMul, Nat.reduceSub, Nat.reduceDiv, Nat.reduceMod, Nat.reducePow, Nat.reduceEqDiff, ↓reduceIte, reduceCtorEq, Int.reduceToNat, Int.reduceAdd, Int.reduceSub, Int.reduceMul]
  refine ⟨fok19, gKey_cps kt (.byt m) b nm (by unfold maxLen; omega) _ hS2 (hK.mod hM1 (by simp)) _ fun w4 hN4 => .inl ⟨_, rfl, hold_stop (s' := some 9) (hold_ops okT (rs := [.tmp 10]) rfl ?_)⟩⟩
  replace hS1 := hS1.mod hN4
  replace hS2 := hS2.mod hN4
  replace hM1 := hM1.trans hN4 (by simp)
  generalize keyG kt (.byt m) nm = C at *
  obtain ⟨c, h⟩ := C
  simp only at hke
  subst hke
  unfold stV
  simp (maxSteps := 1000000) (disch := first | omega | (simp only [sizeAlloc, sizeDrew, sizeSet, sizePut] <;> omega) | fail) only [GS, TT_eq, TTl, Nat.reduceAdd, Nat.reduceMul, Nat.reduceSub, Nat.reduceDiv, Nat.reduceMod, Nat.reducePow, Nat.reduceEqDiff, ↓reduceIte, reduceCtorEq, Int.reduceToNat, Int.reduceAdd, Int.reduceSub, Int.reduceMul]
  refine hold_stop (s' := some 11) ?_
  apply shareI (ls := []) (ws := [78, 79, 80, 81, 82, 83, 84, 85, 86, 87, 88, 89, 90, 91, 92]) (I := (fun vs w' => vs = [] ∧ Mod [] w w' ∧ isS w' s .trm ∧ isS w' b (.byt m)))
  case h1 =>
    intro hq
    refine hold_code okT (rs := [.tmp 10]) rfl ?_
    by_cases hz : h = 0
    rotate_left
    · simp (maxSteps := 1000000) (disch := first | omega | (simp only [sizeAlloc, sizeDrew, sizeSet, sizePut] <;> omega) | fail) only [GS, TT_eq, TTl, Nat.reduceAdd, Nat.reduceMul, Nat.reduceSub, Nat.reduceDiv, Nat.reduceMod, Nat.reducePow, Nat.reduceEqDiff, ↓reduceIte, reduceCtorEq, Int.reduceToNat, Int.reduceAdd, Int.reduceSub, Int.reduceMul, eq_self, hz]
      exact join _ [] [78, 79, 80, 81, 82, 83, 84, 85, 86, 87, 88, 89, 90, 91, 92] (fun vs w' => vs = [] ∧ Mod [] w w' ∧ isS w' s .trm ∧ isS w' b (.byt m)) hq (by kernel_rfl) ⟨rfl, hM1, hS1, hS2⟩
    have hzd := decide_eq_true hz
    simp (maxSteps := 1000000) (disch := first | omega | (simp only [sizeAlloc, sizeDrew, sizeSet, sizePut] <;> omega) | fail) only [GS, TT_eq, TTl, Nat.reduceAdd, Nat.reduceMul, Nat.reduceSub, Nat.reduceDiv, Nat.reduceMod, Nat.reducePow, Nat.reduceEqDiff, ↓reduceIte, reduceCtorEq, Int.reduceToNat, Int.reduceAdd, Int.reduceSub, Int.reduceMul, eq_self, hzd]
    refine ⟨fok27, imaged_cps kt (.byt m) b _ _ _ (by simp only at hkl; omega) (hki (by rw [hz])) _ hS2 (hK.mod hM1 (by simp)) _ fun w9 hN9 => .inl ⟨_, rfl, hold_ops okT (rs := [.tmp 10]) rfl ?_⟩⟩
    replace hS1 := hS1.mod hN9
    replace hS2 := hS2.mod hN9
    replace hM1 := hM1.trans hN9 (by simp)
    simp (maxSteps := 1000000) (disch := first | omega | (simp only [sizeAlloc, sizeDrew, sizeSet, sizePut] <;> omega) | fail) only [GS, TT_eq, TTl, Nat.reduceAdd, Nat.reduceMul, Nat.reduceSub, Nat.reduceDiv, Nat.reduceMod, Nat.reducePow, Nat.reduceEqDiff, ↓reduceIte, reduceCtorEq, Int.reduceToNat, Int.reduceAdd, Int.reduceSub, Int.reduceMul]
    exact join _ [] [78, 79, 80, 81, 82, 83, 84, 85, 86, 87, 88, 89, 90, 91, 92] (fun vs w' => vs = [] ∧ Mod [] w w' ∧ isS w' s .trm ∧ isS w' b (.byt m)) hq (by kernel_rfl) ⟨rfl, hM1, hS1, hS2⟩
  case h2 =>
    clear hM1 hS1 hS2
    rintro vs w10 J10 ⟨rfl, hM1, hS1, hS2⟩
    refine hold_stop (s' := none) (hold_code okT (rs := [.tmp 10]) rfl ?_)
    simp (maxSteps := 1000000) (disch := first | omega | (simp only [sizeAlloc, sizeDrew, sizeSet, sizePut] <;> omega) | fail) only [GS, TT_eq, TTl, Nat.reduceAdd, Nat.reduceMul, Nat.reduceSub, Nat.reduceDiv, Nat.reduceMod, Nat.reducePow, Nat.reduceEqDiff, ↓reduceIte, reduceCtorEq, Int.reduceToNat, Int.reduceAdd, Int.reduceSub, Int.reduceMul]
    refine ⟨fok28, gImage_cps kt (.byt m) b k (by omega) _ hS2 (hK.mod hM1 (by simp)) _ fun w11 hN11 => .inl ⟨_, rfl, hold_ops okT (rs := [.tmp 10]) rfl ?_⟩⟩
    replace hS1 := hS1.mod hN11
    replace hS2 := hS2.mod hN11
    replace hM1 := hM1.trans hN11 (by simp)
    have lki := imageG_len kt (.byt m) k
    generalize hkI : imageG kt (.byt m) k = Xk at *
    obtain ⟨ki, ek⟩ := Xk
    simp only at lki
    unfold stV
    simp (maxSteps := 1000000) (disch := first | omega | (simp only [sizeAlloc, sizeDrew, sizeSet, sizePut] <;> omega) | fail) only [GS, TT_eq, TTl, Nat.reduceAdd, Nat.reduceMul, Nat.reduceSub, Nat.reduceDiv, Nat.reduceMod, Nat.reducePow, Nat.reduceEqDiff, ↓reduceIte, reduceCtorEq, Int.reduceToNat, Int.reduceAdd, Int.reduceSub, Int.reduceMul]
    refine ⟨fok28, gImage_cps kt (.byt m) b n (by omega) _ hS2 (hK.mod hM1 (by simp)) _ fun w12 hN12 => .inl ⟨_, rfl, hold_ops okT (rs := [.tmp 10]) rfl ?_⟩⟩
    replace hS1 := hS1.mod hN12
    replace hS2 := hS2.mod hN12
    replace hM1 := hM1.trans hN12 (by simp)
    have lni := imageG_len kt (.byt m) n
    generalize hni : imageG kt (.byt m) n = Xn at *
    obtain ⟨ni, en⟩ := Xn
    simp only at lni
    unfold stV
    simp (maxSteps := 1000000) (disch := first | omega | (simp only [sizeAlloc, sizeDrew, sizeSet, sizePut] <;> omega) | fail) only [GS, TT_eq, TTl, Nat.reduceAdd, Nat.reduceMul, Nat.reduceSub, Nat.reduceDiv, Nat.reduceMod, Nat.reducePow, Nat.reduceEqDiff, ↓reduceIte, reduceCtorEq, Int.reduceToNat, Int.reduceAdd, Int.reduceSub, Int.reduceMul]
    refine ⟨fok28, gImage_cps kt (.byt m) b t (by omega) _ hS2 (hK.mod hM1 (by simp)) _ fun w13 hN13 => .inl ⟨_, rfl, hold_ops okT (rs := [.tmp 10]) rfl ?_⟩⟩
    replace hS1 := hS1.mod hN13
    replace hS2 := hS2.mod hN13
    replace hM1 := hM1.trans hN13 (by simp)
    have lti := imageG_len kt (.byt m) t
    generalize hti : imageG kt (.byt m) t = Xt at *
    obtain ⟨ti, et⟩ := Xt
    simp only at lti
    unfold stV
    by_cases zk : ek = 0
    rotate_left
    · simp (maxSteps := 1000000) (disch := first | omega | (simp only [sizeAlloc, sizeDrew, sizeSet, sizePut] <;> omega) | fail) only [GS, TT_eq, TTl, Nat.reduceAdd, Nat.reduceMul, Nat.reduceSub, Nat.reduceDiv, Nat.reduceMod, Nat.reducePow, Nat.reduceEqDiff, ↓reduceIte, reduceCtorEq, Int.reduceToNat, Int.reduceAdd, Int.reduceSub, Int.reduceMul, zk]
      refine ⟨fok16, hal _ hM1 _ fun w2 hM2 => .inl ⟨_, rfl, hold_ops okT (rs := [.tmp 10]) rfl ?_⟩⟩
      simp (maxSteps := 1000000) (disch := first | omega | (simp only [sizeAlloc, sizeDrew, sizeSet, sizePut] <;> omega) | fail) only [GS, TT_eq, TTl, Nat.reduceAdd, Nat.reduceMul, Nat.reduceSub, Nat.reduceDiv, Nat.reduceMod, Nat.reducePow, Nat.reduceEqDiff, ↓reduceIte, reduceCtorEq, Int.reduceToNat, Int.reduceAdd, Int.reduceSub, Int.reduceMul]
      exact hR _ hM2
    subst zk
    by_cases zn : en = 0
    rotate_left
    · simp (maxSteps := 1000000) (disch := first | omega | (simp only [sizeAlloc, sizeDrew, sizeSet, sizePut] <;> omega) | fail) only [GS, TT_eq, TTl, Nat.reduceAdd, Nat.reduceMul, Nat.reduceSub, Nat.reduceDiv, Nat.reduceMod, Nat.reducePow, Nat.reduceEqDiff, ↓reduceIte, reduceCtorEq, Int.reduceToNat, Int.reduceAdd, Int.reduceSub, Int.reduceMul, zn]
      refine ⟨fok16, hal _ hM1 _ fun w2 hM2 => .inl ⟨_, rfl, hold_ops okT (rs := [.tmp 10]) rfl ?_⟩⟩
      simp (maxSteps := 1000000) (disch := first | omega | (simp only [sizeAlloc, sizeDrew, sizeSet, sizePut] <;> omega) | fail) only [GS, TT_eq, TTl, Nat.reduceAdd, Nat.reduceMul, Nat.reduceSub, Nat.reduceDiv, Nat.reduceMod, Nat.reducePow, Nat.reduceEqDiff, ↓reduceIte, reduceCtorEq, Int.reduceToNat, Int.reduceAdd, Int.reduceSub, Int.reduceMul]
      exact hR _ hM2
    subst zn
    by_cases zt : et = 0
    rotate_left
    · simp (maxSteps := 1000000) (disch := first | omega | (simp only [sizeAlloc, sizeDrew, sizeSet, sizePut] <;> omega) | fail) only [GS, TT_eq, TTl, Nat.reduceAdd, Nat.reduceMul, Nat.reduceSub, Nat.reduceDiv, Nat.reduceMod, Nat.reducePow, Nat.reduceEqDiff, ↓reduceIte, reduceCtorEq, Int.reduceToNat, Int.reduceAdd, Int.reduceSub, Int.reduceMul, zt]
      refine ⟨fok16, hal _ hM1 _ fun w2 hM2 => .inl ⟨_, rfl, hold_ops okT (rs := [.tmp 10]) rfl ?_⟩⟩
      simp (maxSteps := 1000000) (disch := first | omega | (simp only [sizeAlloc, sizeDrew, sizeSet, sizePut] <;> omega) | fail) only [GS, TT_eq, TTl, Nat.reduceAdd, Nat.reduceMul, Nat.reduceSub, Nat.reduceDiv, Nat.reduceMod, Nat.reducePow, Nat.reduceEqDiff, ↓reduceIte, reduceCtorEq, Int.reduceToNat, Int.reduceAdd, Int.reduceSub, Int.reduceMul]
      exact hR _ hM2
    subst zt
    have hki2 := hkI
    simp (maxSteps := 1000000) (disch := first | omega | (simp only [sizeAlloc, sizeDrew, sizeSet, sizePut] <;> omega) | fail) only [GS, TT_eq, TTl, Nat.reduceAdd, Nat.reduceMul, Nat.reduceSub, Nat.reduceDiv, Nat.reduceMod, Nat.reducePow, Nat.reduceEqDiff, ↓reduceIte, reduceCtorEq, Int.reduceToNat, Int.reduceAdd, Int.reduceSub, Int.reduceMul]
    refine ⟨fok20, gHash_cps kt .trm s t (by omega) _ hS1 (hK.mod hM1 (by simp)) _ fun w14 hN14 => .inl ⟨_, rfl, hold_ops okT (rs := [.tmp 10]) rfl ?_⟩⟩
    replace hS1 := hS1.mod hN14
    replace hS2 := hS2.mod hN14
    replace hM1 := hM1.trans hN14 (by simp)
    have lx := hashG_len kt .trm t
    generalize hX : hashG kt .trm t = X14 at *
    obtain ⟨x14, i14⟩ := X14
    simp only at lx
    unfold stV
    simp (maxSteps := 1000000) (disch := first | omega | (simp only [sizeAlloc, sizeDrew, sizeSet, sizePut] <;> omega) | fail) only [GS, TT_eq, TTl, Nat.reduceAdd, Nat.reduceMul, Nat.reduceSub, Nat.reduceDiv, Nat.reduceMod, Nat.reducePow, Nat.reduceEqDiff, ↓reduceIte, reduceCtorEq, Int.reduceToNat, Int.reduceAdd, Int.reduceSub, Int.reduceMul]
    refine ⟨fok20, gHash_cps kt (.byt m) b ti (by omega) _ hS2 (hK.mod hM1 (by simp)) _ fun w15 hN15 => .inl ⟨_, rfl, hold_stop (s' := some 18) (hold_ops okT (rs := [.tmp 10]) rfl ?_)⟩⟩
    replace hS1 := hS1.mod hN15
    replace hS2 := hS2.mod hN15
    replace hM1 := hM1.trans hN15 (by simp)
    generalize hY : hashG kt (.byt m) ti = Y15 at *
    obtain ⟨y15, j15⟩ := Y15
    unfold stV
    simp (maxSteps := 1000000) (disch := first | omega | (simp only [sizeAlloc, sizeDrew, sizeSet, sizePut] <;> omega) | fail) only [GS, TT_eq, TTl, Nat.reduceAdd, Nat.reduceMul, Nat.reduceSub, Nat.reduceDiv, Nat.reduceMod, Nat.reducePow, Nat.reduceEqDiff, ↓reduceIte, reduceCtorEq, Int.reduceToNat, Int.reduceAdd, Int.reduceSub, Int.reduceMul]
    refine hold_stop (s' := some 20) ?_
    apply shareI (ls := []) (ws := [134, 135, 136, 137, 138, 139, 140, 141, 142, 143]) (I := (fun vs w' => vs = [] ∧ Mod [] w w' ∧ isS w' s .trm ∧ isS w' b (.byt m)))
    case h1 =>
      intro hq
      refine hold_code okT (rs := [.tmp 10]) rfl ?_
      by_cases hz : i14 = 0
      rotate_left
      · simp (maxSteps := 1000000) (disch := first | omega | (simp only [sizeAlloc, sizeDrew, sizeSet, sizePut] <;> omega) | fail) only [GS, TT_eq, TTl, Nat.reduceAdd, Nat.reduceMul, Nat.reduceSub, Nat.reduceDiv, Nat.reduceMod, Nat.reducePow, Nat.reduceEqDiff, ↓reduceIte, reduceCtorEq, Int.reduceToNat, Int.reduceAdd, Int.reduceSub, Int.reduceMul, eq_self, hz]
        exact join _ [] [134, 135, 136, 137, 138, 139, 140, 141, 142, 143] (fun vs w' => vs = [] ∧ Mod [] w w' ∧ isS w' s .trm ∧ isS w' b (.byt m)) hq (by kernel_rfl) ⟨rfl, hM1, hS1, hS2⟩
      have hzd := decide_eq_true hz
      simp (maxSteps := 1000000) (disch := first | omega | (simp only [sizeAlloc, sizeDrew, sizeSet, sizePut] <;> omega) | fail) only [GS, TT_eq, TTl, Nat.reduceAdd, Nat.reduceMul, Nat.reduceSub, Nat.reduceDiv, Nat.reduceMod, Nat.reducePow, Nat.reduceEqDiff, ↓reduceIte, reduceCtorEq, Int.reduceToNat, Int.reduceAdd, Int.reduceSub, Int.reduceMul, eq_self, hzd]
      refine ⟨fok27, imaged_cps kt (.byt m) b _ _ _ (by omega) (by subst hz; rw [hash_img hX hti, hY]) _ hS2 (hK.mod hM1 (by simp)) _ fun w9 hN9 => .inl ⟨_, rfl, hold_ops okT (rs := [.tmp 10]) rfl ?_⟩⟩
      replace hS1 := hS1.mod hN9
      replace hS2 := hS2.mod hN9
      replace hM1 := hM1.trans hN9 (by simp)
      simp (maxSteps := 1000000) (disch := first | omega | (simp only [sizeAlloc, sizeDrew, sizeSet, sizePut] <;> omega) | fail) only [GS, TT_eq, TTl, Nat.reduceAdd, Nat.reduceMul, Nat.reduceSub, Nat.reduceDiv, Nat.reduceMod, Nat.reducePow, Nat.reduceEqDiff, ↓reduceIte, reduceCtorEq, Int.reduceToNat, Int.reduceAdd, Int.reduceSub, Int.reduceMul]
      exact join _ [] [134, 135, 136, 137, 138, 139, 140, 141, 142, 143] (fun vs w' => vs = [] ∧ Mod [] w w' ∧ isS w' s .trm ∧ isS w' b (.byt m)) hq (by kernel_rfl) ⟨rfl, hM1, hS1, hS2⟩
    case h2 =>
      clear hM1 hS1 hS2
      skip
      rintro vs w16 J16 ⟨rfl, hM1, hS1, hS2⟩
      refine hold_stop (s' := none) (hold_code okT (rs := [.tmp 10]) rfl ?_)
      clear hX hY lx
      simp (maxSteps := 1000000) (disch := first | omega | (simp only [sizeAlloc, sizeDrew, sizeSet, sizePut] <;> omega) | fail) only [GS, TT_eq, TTl, Nat.reduceAdd, Nat.reduceMul, Nat.reduceSub, Nat.reduceDiv, Nat.reduceMod, Nat.reducePow, Nat.reduceEqDiff, ↓reduceIte, reduceCtorEq, Int.reduceToNat, Int.reduceAdd, Int.reduceSub, Int.reduceMul]
      refine ⟨fok21, gMac_cps kt .trm s k t (by omega) (by omega) _ hS1 (hK.mod hM1 (by simp)) _ fun w17 hN17 => .inl ⟨_, rfl, hold_ops okT (rs := [.tmp 10]) rfl ?_⟩⟩
      replace hS1 := hS1.mod hN17
      replace hS2 := hS2.mod hN17
      replace hM1 := hM1.trans hN17 (by simp)
      have lx := macG_len kt .trm k t
      generalize hX : macG kt .trm k t = X17 at *
      obtain ⟨x17, i17⟩ := X17
      simp only at lx
      unfold stV
      simp (maxSteps := 1000000) (disch := first | omega | (simp only [sizeAlloc, sizeDrew, sizeSet, sizePut] <;> omega) | fail) only [GS, TT_eq, TTl, Nat.reduceAdd, Nat.reduceMul, Nat.reduceSub, Nat.reduceDiv, Nat.reduceMod, Nat.reducePow, Nat.reduceEqDiff, ↓reduceIte, reduceCtorEq, Int.reduceToNat, Int.reduceAdd, Int.reduceSub, Int.reduceMul]
      refine ⟨fok21, gMac_cps kt (.byt m) b ki ti (by omega) (by omega) _ hS2 (hK.mod hM1 (by simp)) _ fun w18 hN18 => .inl ⟨_, rfl, hold_stop (s' := some 22) (hold_ops okT (rs := [.tmp 10]) rfl ?_)⟩⟩
      replace hS1 := hS1.mod hN18
      replace hS2 := hS2.mod hN18
      replace hM1 := hM1.trans hN18 (by simp)
      generalize hY : macG kt (.byt m) ki ti = Y18 at *
      obtain ⟨y18, j18⟩ := Y18
      unfold stV
      simp (maxSteps := 1000000) (disch := first | omega | (simp only [sizeAlloc, sizeDrew, sizeSet, sizePut] <;> omega) | fail) only [GS, TT_eq, TTl, Nat.reduceAdd, Nat.reduceMul, Nat.reduceSub, Nat.reduceDiv, Nat.reduceMod, Nat.reducePow, Nat.reduceEqDiff, ↓reduceIte, reduceCtorEq, Int.reduceToNat, Int.reduceAdd, Int.reduceSub, Int.reduceMul]
      refine hold_stop (s' := some 24) ?_
      apply shareI (ls := []) (ws := [158, 159, 160, 161, 162, 163, 164, 165, 166, 167]) (I := (fun vs w' => vs = [] ∧ Mod [] w w' ∧ isS w' s .trm ∧ isS w' b (.byt m)))
      case h1 =>
        intro hq
        refine hold_code okT (rs := [.tmp 10]) rfl ?_
        by_cases hz : i17 = 0
        rotate_left
        · simp (maxSteps := 1000000) (disch := first | omega | (simp only [sizeAlloc, sizeDrew, sizeSet, sizePut] <;> omega) | fail) only [GS, TT_eq, TTl, Nat.reduceAdd, Nat.reduceMul, Nat.reduceSub, Nat.reduceDiv, Nat.reduceMod, Nat.reducePow, Nat.reduceEqDiff, ↓reduceIte, reduceCtorEq, Int.reduceToNat, Int.reduceAdd, Int.reduceSub, Int.reduceMul, eq_self, hz]
          exact join _ [] [158, 159, 160, 161, 162, 163, 164, 165, 166, 167] (fun vs w' => vs = [] ∧ Mod [] w w' ∧ isS w' s .trm ∧ isS w' b (.byt m)) hq (by kernel_rfl) ⟨rfl, hM1, hS1, hS2⟩
        have hzd := decide_eq_true hz
        simp (maxSteps := 1000000) (disch := first | omega | (simp only [sizeAlloc, sizeDrew, sizeSet, sizePut] <;> omega) | fail) only [GS, TT_eq, TTl, Nat.reduceAdd, Nat.reduceMul, Nat.reduceSub, Nat.reduceDiv, Nat.reduceMod, Nat.reducePow, Nat.reduceEqDiff, ↓reduceIte, reduceCtorEq, Int.reduceToNat, Int.reduceAdd, Int.reduceSub, Int.reduceMul, eq_self, hzd]
        refine ⟨fok27, imaged_cps kt (.byt m) b _ _ _ (by omega) (by subst hz; rw [mac_img hX hki2 hti, hY]) _ hS2 (hK.mod hM1 (by simp)) _ fun w9 hN9 => .inl ⟨_, rfl, hold_ops okT (rs := [.tmp 10]) rfl ?_⟩⟩
        replace hS1 := hS1.mod hN9
        replace hS2 := hS2.mod hN9
        replace hM1 := hM1.trans hN9 (by simp)
        simp (maxSteps := 1000000) (disch := first | omega | (simp only [sizeAlloc, sizeDrew, sizeSet, sizePut] <;> omega) | fail) only [GS, TT_eq, TTl, Nat.reduceAdd, Nat.reduceMul, Nat.reduceSub, Nat.reduceDiv, Nat.reduceMod, Nat.reducePow, Nat.reduceEqDiff, ↓reduceIte, reduceCtorEq, Int.reduceToNat, Int.reduceAdd, Int.reduceSub, Int.reduceMul]
        exact join _ [] [158, 159, 160, 161, 162, 163, 164, 165, 166, 167] (fun vs w' => vs = [] ∧ Mod [] w w' ∧ isS w' s .trm ∧ isS w' b (.byt m)) hq (by kernel_rfl) ⟨rfl, hM1, hS1, hS2⟩
      case h2 =>
        clear hM1 hS1 hS2
        skip
        rintro vs w19 J19 ⟨rfl, hM1, hS1, hS2⟩
        refine hold_stop (s' := none) (hold_code okT (rs := [.tmp 10]) rfl ?_)
        clear hX hY lx
        simp (maxSteps := 1000000) (disch := first | omega | (simp only [sizeAlloc, sizeDrew, sizeSet, sizePut] <;> omega) | fail) only [GS, TT_eq, TTl, Nat.reduceAdd, Nat.reduceMul, Nat.reduceSub, Nat.reduceDiv, Nat.reduceMod, Nat.reducePow, Nat.reduceEqDiff, ↓reduceIte, reduceCtorEq, Int.reduceToNat, Int.reduceAdd, Int.reduceSub, Int.reduceMul]
        refine ⟨fok22, gSeal_cps kt .trm s k n t (by omega) (by omega) (by omega) _ hS1 (hK.mod hM1 (by simp)) _ fun w20 hN20 => .inl ⟨_, rfl, hold_ops okT (rs := [.tmp 10]) rfl ?_⟩⟩
        replace hS1 := hS1.mod hN20
        replace hS2 := hS2.mod hN20
        replace hM1 := hM1.trans hN20 (by simp)
        have lx := sealG_len kt .trm k n t
        generalize hX : sealG kt .trm k n t = X20 at *
        obtain ⟨x20, i20⟩ := X20
        simp only at lx
        unfold stV
        simp (maxSteps := 1000000) (disch := first | omega | (simp only [sizeAlloc, sizeDrew, sizeSet, sizePut] <;> omega) | fail) only [GS, TT_eq, TTl, Nat.reduceAdd, Nat.reduceMul, Nat.reduceSub, Nat.reduceDiv, Nat.reduceMod, Nat.reducePow, Nat.reduceEqDiff, ↓reduceIte, reduceCtorEq, Int.reduceToNat, Int.reduceAdd, Int.reduceSub, Int.reduceMul]
        refine ⟨fok22, gSeal_cps kt (.byt m) b ki ni ti (by omega) (by omega) (by omega) _ hS2 (hK.mod hM1 (by simp)) _ fun w21 hN21 => .inl ⟨_, rfl, hold_stop (s' := some 26) (hold_ops okT (rs := [.tmp 10]) rfl ?_)⟩⟩
        replace hS1 := hS1.mod hN21
        replace hS2 := hS2.mod hN21
        replace hM1 := hM1.trans hN21 (by simp)
        generalize hY : sealG kt (.byt m) ki ni ti = Y21 at *
        obtain ⟨y21, j21⟩ := Y21
        unfold stV
        simp (maxSteps := 1000000) (disch := first | omega | (simp only [sizeAlloc, sizeDrew, sizeSet, sizePut] <;> omega) | fail) only [GS, TT_eq, TTl, Nat.reduceAdd, Nat.reduceMul, Nat.reduceSub, Nat.reduceDiv, Nat.reduceMod, Nat.reducePow, Nat.reduceEqDiff, ↓reduceIte, reduceCtorEq, Int.reduceToNat, Int.reduceAdd, Int.reduceSub, Int.reduceMul]
        refine hold_stop (s' := some 28) ?_
        apply shareI (ls := []) (ws := [184, 185, 186, 187, 188, 189, 190, 191, 192, 193]) (I := (fun vs w' => vs = [] ∧ Mod [] w w' ∧ isS w' s .trm ∧ isS w' b (.byt m)))
        case h1 =>
          intro hq
          refine hold_code okT (rs := [.tmp 10]) rfl ?_
          by_cases hz : i20 = 0
          rotate_left
          · simp (maxSteps := 1000000) (disch := first | omega | (simp only [sizeAlloc, sizeDrew, sizeSet, sizePut] <;> omega) | fail) only [GS, TT_eq, TTl, Nat.reduceAdd, Nat.reduceMul, Nat.reduceSub, Nat.reduceDiv, Nat.reduceMod, Nat.reducePow, Nat.reduceEqDiff, ↓reduceIte, reduceCtorEq, Int.reduceToNat, Int.reduceAdd, Int.reduceSub, Int.reduceMul, eq_self, hz]
            exact join _ [] [184, 185, 186, 187, 188, 189, 190, 191, 192, 193] (fun vs w' => vs = [] ∧ Mod [] w w' ∧ isS w' s .trm ∧ isS w' b (.byt m)) hq (by kernel_rfl) ⟨rfl, hM1, hS1, hS2⟩
          have hzd := decide_eq_true hz
          simp (maxSteps := 1000000) (disch := first | omega | (simp only [sizeAlloc, sizeDrew, sizeSet, sizePut] <;> omega) | fail) only [GS, TT_eq, TTl, Nat.reduceAdd, Nat.reduceMul, Nat.reduceSub, Nat.reduceDiv, Nat.reduceMod, Nat.reducePow, Nat.reduceEqDiff, ↓reduceIte, reduceCtorEq, Int.reduceToNat, Int.reduceAdd, Int.reduceSub, Int.reduceMul, eq_self, hzd]
          refine ⟨fok27, imaged_cps kt (.byt m) b _ _ _ (by omega) (by subst hz; rw [seal_img hX hki2 hni hti, hY]) _ hS2 (hK.mod hM1 (by simp)) _ fun w9 hN9 => .inl ⟨_, rfl, hold_ops okT (rs := [.tmp 10]) rfl ?_⟩⟩
          replace hS1 := hS1.mod hN9
          replace hS2 := hS2.mod hN9
          replace hM1 := hM1.trans hN9 (by simp)
          simp (maxSteps := 1000000) (disch := first | omega | (simp only [sizeAlloc, sizeDrew, sizeSet, sizePut] <;> omega) | fail) only [GS, TT_eq, TTl, Nat.reduceAdd, Nat.reduceMul, Nat.reduceSub, Nat.reduceDiv, Nat.reduceMod, Nat.reducePow, Nat.reduceEqDiff, ↓reduceIte, reduceCtorEq, Int.reduceToNat, Int.reduceAdd, Int.reduceSub, Int.reduceMul]
          exact join _ [] [184, 185, 186, 187, 188, 189, 190, 191, 192, 193] (fun vs w' => vs = [] ∧ Mod [] w w' ∧ isS w' s .trm ∧ isS w' b (.byt m)) hq (by kernel_rfl) ⟨rfl, hM1, hS1, hS2⟩
        case h2 =>
          clear hM1 hS1 hS2
          skip
          rintro vs w22 J22 ⟨rfl, hM1, hS1, hS2⟩
          refine hold_stop (s' := none) (hold_code okT (rs := [.tmp 10]) rfl ?_)
          by_cases z1 : i20 = 0
          rotate_left
          · simp (maxSteps := 1000000) (disch := first | omega | (simp only [sizeAlloc, sizeDrew, sizeSet, sizePut] <;> omega) | fail) only [GS, TT_eq, TTl, Nat.reduceAdd, Nat.reduceMul, Nat.reduceSub, Nat.reduceDiv, Nat.reduceMod, Nat.reducePow, Nat.reduceEqDiff, ↓reduceIte, reduceCtorEq, Int.reduceToNat, Int.reduceAdd, Int.reduceSub, Int.reduceMul, z1]
            refine ⟨fok16, hal _ hM1 _ fun w2 hM2 => .inl ⟨_, rfl, hold_ops okT (rs := [.tmp 10]) rfl ?_⟩⟩
            simp (maxSteps := 1000000) (disch := first | omega | (simp only [sizeAlloc, sizeDrew, sizeSet, sizePut] <;> omega) | fail) only [GS, TT_eq, TTl, Nat.reduceAdd, Nat.reduceMul, Nat.reduceSub, Nat.reduceDiv, Nat.reduceMod, Nat.reducePow, Nat.reduceEqDiff, ↓reduceIte, reduceCtorEq, Int.reduceToNat, Int.reduceAdd, Int.reduceSub, Int.reduceMul]
            exact hR _ hM2
          by_cases z2 : j21 = 0
          rotate_left
          · simp (maxSteps := 1000000) (disch := first | omega | (simp only [sizeAlloc, sizeDrew, sizeSet, sizePut] <;> omega) | fail) only [GS, TT_eq, TTl, Nat.reduceAdd, Nat.reduceMul, Nat.reduceSub, Nat.reduceDiv, Nat.reduceMod, Nat.reducePow, Nat.reduceEqDiff, ↓reduceIte, reduceCtorEq, Int.reduceToNat, Int.reduceAdd, Int.reduceSub, Int.reduceMul, z1, z2]
            refine ⟨fok16, hal _ hM1 _ fun w2 hM2 => .inl ⟨_, rfl, hold_ops okT (rs := [.tmp 10]) rfl ?_⟩⟩
            simp (maxSteps := 1000000) (disch := first | omega | (simp only [sizeAlloc, sizeDrew, sizeSet, sizePut] <;> omega) | fail) only [GS, TT_eq, TTl, Nat.reduceAdd, Nat.reduceMul, Nat.reduceSub, Nat.reduceDiv, Nat.reduceMod, Nat.reducePow, Nat.reduceEqDiff, ↓reduceIte, reduceCtorEq, Int.reduceToNat, Int.reduceAdd, Int.reduceSub, Int.reduceMul]
            exact hR _ hM2
          subst z1
          subst z2
          obtain ⟨o1, _, _, l1⟩ := seal_back hX
          obtain ⟨o2, _, _, l2⟩ := seal_back hY
          simp (maxSteps := 1000000) (disch := first | omega | (simp only [sizeAlloc, sizeDrew, sizeSet, sizePut] <;> omega) | fail) only [GS, TT_eq, TTl, Nat.reduceAdd, Nat.reduceMul, Nat.reduceSub, Nat.reduceDiv, Nat.reduceMod, Nat.reducePow, Nat.reduceEqDiff, ↓reduceIte, reduceCtorEq, Int.reduceToNat, Int.reduceAdd, Int.reduceSub, Int.reduceMul]
          refine ⟨fok23, gOpen_cps kt .trm s k x20 (by omega) (by omega) _ hS1 (hK.mod hM1 (by simp)) _ fun w23 hN23 => .inl ⟨_, rfl, hold_ops okT (rs := [.tmp 10]) rfl ?_⟩⟩
          replace hS1 := hS1.mod hN23
          replace hS2 := hS2.mod hN23
          replace hM1 := hM1.trans hN23 (by simp)
          rw [o1]
          unfold stV
          simp (maxSteps := 1000000) (disch := first | omega | (simp only [sizeAlloc, sizeDrew, sizeSet, sizePut] <;> omega) | fail) only [GS, TT_eq, TTl, Nat.reduceAdd, Nat.reduceMul, Nat.reduceSub, Nat.reduceDiv, Nat.reduceMod, Nat.reducePow, Nat.reduceEqDiff, ↓reduceIte, reduceCtorEq, Int.reduceToNat, Int.reduceAdd, Int.reduceSub, Int.reduceMul]
          refine ⟨fok23, gOpen_cps kt (.byt m) b ki y21 (by omega) (by omega) _ hS2 (hK.mod hM1 (by simp)) _ fun w24 hN24 => .inl ⟨_, rfl, hold_ops okT (rs := [.tmp 10]) rfl ?_⟩⟩
          replace hS1 := hS1.mod hN24
          replace hS2 := hS2.mod hN24
          replace hM1 := hM1.trans hN24 (by simp)
          rw [o2]
          unfold stV
          simp (maxSteps := 1000000) (disch := first | omega | (simp only [sizeAlloc, sizeDrew, sizeSet, sizePut] <;> omega) | fail) only [GS, TT_eq, TTl, Nat.reduceAdd, Nat.reduceMul, Nat.reduceSub, Nat.reduceDiv, Nat.reduceMod, Nat.reducePow, Nat.reduceEqDiff, ↓reduceIte, reduceCtorEq, Int.reduceToNat, Int.reduceAdd, Int.reduceSub, Int.reduceMul]
          refine ⟨fok27, imaged_cps kt (.byt m) b t ti 0 (by omega) hti _ hS2 (hK.mod hM1 (by simp)) _ fun w99 hN99 => .inl ⟨_, rfl, hold_ops okT (rs := [.tmp 10]) rfl ?_⟩⟩
          replace hM1 := hM1.trans hN99 (by simp)
          simp (maxSteps := 1000000) (disch := first | omega | (simp only [sizeAlloc, sizeDrew, sizeSet, sizePut] <;> omega) | fail) only [GS, TT_eq, TTl, Nat.reduceAdd, Nat.reduceMul, Nat.reduceSub, Nat.reduceDiv, Nat.reduceMod, Nat.reducePow, Nat.reduceEqDiff, ↓reduceIte, reduceCtorEq, Int.reduceToNat, Int.reduceAdd, Int.reduceSub, Int.reduceMul]
          refine ⟨fok16, hal _ hM1 _ fun w2 hM2 => .inl ⟨_, rfl, hold_ops okT (rs := [.tmp 10]) rfl ?_⟩⟩
          simp (maxSteps := 1000000) (disch := first | omega | (simp only [sizeAlloc, sizeDrew, sizeSet, sizePut] <;> omega) | fail) only [GS, TT_eq, TTl, Nat.reduceAdd, Nat.reduceMul, Nat.reduceSub, Nat.reduceDiv, Nat.reduceMod, Nat.reducePow, Nat.reduceEqDiff, ↓reduceIte, reduceCtorEq, Int.reduceToNat, Int.reduceAdd, Int.reduceSub, Int.reduceMul]
          exact hR _ hM2
end Go.Proofs.Ytoladcdelaemoaa
