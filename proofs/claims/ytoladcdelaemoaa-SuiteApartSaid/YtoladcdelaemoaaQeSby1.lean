/-
  A suite of bytes: what it makes (walks).
-/
import Derived.Test.YtoladcdelaemoaaQeSui3
import Derived.Test.YtoladcdelaemoaaQeCip3
set_option linter.unusedSimpArgs false
set_option linter.unusedVariables false
set_option maxRecDepth 20000
namespace Go.Proofs.Ytoladcdelaemoaa
open Go Go.Wk Go.RowKit
attribute [local irreducible] go Hold
open Go.Lib
def keyW : List UInt8 := [107, 101, 121, 32]
def keyBy (kt : List Int) (m n : List UInt8) : List UInt8 × Int := if (atomS n).2 = 0 then dataS (hmF kt m (keyW ++ n)) else ([], (atomS n).2)
def hashBy (kt : List Int) (t : List UInt8) : List UInt8 × Int := dataS (shF kt t)
def macBy (kt : List Int) (k t : List UInt8) : List UInt8 × Int := if kindS k = 1 then dataS (hmF kt (textS k).1 t) else ([], 2)
def sealBy (kt : List Int) (k n t : List UInt8) : List UInt8 × Int :=
  if kindS k = 1 ∧ kindS n = 1 then (if (sealC kt (textS k).1 (textS n).1 t).2 = 0 then dataS (sealC kt (textS k).1 (textS n).1 t).1 else ([], 2)) else ([], 2)
def openBy (kt : List Int) (k x : List UInt8) : List UInt8 × Int :=
  if kindS k = 1 then (if kindS x = 1 then (if (openC kt (textS k).1 (textS x).1).2 = 0 then (if checkS (openC kt (textS k).1 (textS x).1).1 = 0 then ((openC kt (textS k).1 (textS x).1).1, 0) else ([], 7)) else ([], 80)) else ([], 7)) else ([], 2)
theorem text_len (t : List UInt8) : (textS t).1.length ≤ t.length := by
  unfold textS
  split
  · generalize hX : readTextS (t.drop 1) 1024 = X
    obtain ⟨u, n, e⟩ := X
    have := (readTextS_len hX).2
    rw [List.length_drop] at this
    simp only
    omega
  · simp
theorem atom_len (n : List UInt8) (h : (atomS n).2 = 0) : n.length ≤ 32 := by
  unfold atomS at h
  by_cases h1 : 32 < n.length
  · rw [if_pos h1] at h; exact absurd h (by decide)
  · omega
set_option maxHeartbeats 2000000 in
theorem sText_cps (t : List UInt8) (ht : t.length ≤ maxLen) (w : World) (R : Ending → World → Prop) (hR : ∀ w', Mod [] w w' → R (.returned (.tuple #[.string ⟨(textS t).1.toArray⟩, .bool (decide (kindS t = 1))])) w') :
    Calls Try.prog 130 #[.string ⟨t.toArray⟩] w R := by
  refine calls_go 4000 okT Try.func130 rfl (rs := [.tmp 2, .tmp 3]) rfl Try.ntmps130 (args := [.string ⟨t.toArray⟩]) ?_
  simp (maxSteps := 1000000) (disch := first | omega | (simp only [sizeAlloc, sizeDrew, sizeSet, sizePut] <;> omega) | fail) only [GS, TT_eq, TTl, Nat.reduceAdd, Nat.reduceMul, Nat.reduceSub, Nat.reduceDiv, Nat.reduceMod, Nat.reducePow, Nat.reduceEqDiff, ↓reduceIte, reduceCtorEq, Int.reduceToNat, Int.reduceAdd, Int.reduceSub, Int.reduceMul]
  refine ⟨fok44, tText_cps t ht _ _ fun w1 hM1 => .inl ⟨_, rfl, hold_ops okT (rs := [.tmp 2, .tmp 3]) rfl ?_⟩⟩
  have h2 : (textS t).2 = decide (kindS t = 1 ∨ kindS t = 2) := by
    unfold textS
    by_cases h : kindS t = 1 ∨ kindS t = 2
    · rw [if_pos h, decide_eq_true h]
    · rw [if_neg h, decide_eq_false h]
  by_cases h : kindS t = 1 ∨ kindS t = 2
  · rw [decide_eq_true h] at h2
    rw [h2]
    simp (maxSteps := 1000000) (disch := first | omega | (simp only [sizeAlloc, sizeDrew, sizeSet, sizePut] <;> omega) | fail) only [GS, TT_eq, TTl, Nat.reduceAdd, Nat.reduceMul, Nat.reduceSub, Nat.reduceDiv, Nat.reduceMod, Nat.reducePow, Nat.reduceEqDiff, ↓reduceIte, reduceCtorEq, Int.reduceToNat, Int.reduceAdd, Int.reduceSub, Int.reduceMul]
    refine ⟨fok26, tKind_cps t ht _ _ fun w2 hM2 => .inl ⟨_, rfl, hold_ops okT (rs := [.tmp 2, .tmp 3]) rfl ?_⟩⟩
    have e : decide (((kindS t : Nat) : Int) = 1) = decide (kindS t = 1) := decide_eq_decide.2 (by omega)
    simp (maxSteps := 1000000) (disch := first | omega | (simp only [sizeAlloc, sizeDrew, sizeSet, sizePut] <;> omega) | fail) only [GS, TT_eq, TTl, Nat.reduceAdd, Nat.reduceMul, Nat.reduceSub, Nat.reduceDiv, Nat.reduceMod, Nat.reducePow, Nat.reduceEqDiff, ↓reduceIte, reduceCtorEq, Int.reduceToNat, Int.reduceAdd, Int.reduceSub, Int.reduceMul, e]
    exact hR _ (hM1.trans hM2 (by simp))
  · rw [decide_eq_false h] at h2
    rw [h2]
    rw [decide_eq_false (fun e => h (.inl e))] at hR
    simp (maxSteps := 1000000) (disch := first | omega | (simp only [sizeAlloc, sizeDrew, sizeSet, sizePut] <;> omega) | fail) only [GS, TT_eq, TTl, Nat.reduceAdd, Nat.reduceMul, Nat.reduceSub, Nat.reduceDiv, Nat.reduceMod, Nat.reducePow, Nat.reduceEqDiff, ↓reduceIte, reduceCtorEq, Int.reduceToNat, Int.reduceAdd, Int.reduceSub, Int.reduceMul]
    exact hR _ hM1
set_option maxHeartbeats 2000000 in
theorem byKey_cps (kt : List Int) (m n : List UInt8) (hm : m.length ≤ 1000000) (hn : n.length ≤ maxLen) (w : World) (hK : KTab w kt) (R : Ending → World → Prop) (hR : ∀ w', Mod [] w w' → R (.returned (stV (keyBy kt m n))) w') :
    Calls Try.prog 124 #[.agg #[.string ⟨m.toArray⟩], .string ⟨n.toArray⟩] w R := by
  unfold keyBy at hR
  refine calls_go 4000 okT Try.func124 rfl (rs := [.tmp 4, .tmp 5]) rfl Try.ntmps124 (args := [.agg #[.string ⟨m.toArray⟩], .string ⟨n.toArray⟩]) ?_
  simp (maxSteps := 1000000) (disch := first | omega | (simp only [sizeAlloc, sizeDrew, sizeSet, sizePut] <;> omega) | fail) only [GS, TT_eq, TTl, Nat.reduceAdd, Nat.reduceMul, Nat.reduceSub, Nat.reduceDiv, Nat.reduceMod, Nat.reducePow, Nat.reduceEqDiff, ↓reduceIte, reduceCtorEq, Int.reduceToNat, Int.reduceAdd, Int.reduceSub, Int.reduceMul]
  have hB := heapNew (w := w) (o := .cells #[.string ⟨m.toArray⟩] 78)
  have hM0 := (Mod.refl [] w).alloc (.cells #[.string ⟨m.toArray⟩] 78)
  generalize w.alloc _ = w0 at *
  refine ⟨fok29, tAtom_cps n hn _ _ fun w1 hM1 => .inl ⟨_, rfl, hold_ops okT (rs := [.tmp 4, .tmp 5]) rfl ?_⟩⟩
  have hM01 := hM0.trans hM1 (by simp)
  have hB1 := cellOf (o := 0) (hM1.get hB (by simp))
  have hal := atom_len n
  generalize atomS n = A at *
  obtain ⟨at', ae⟩ := A
  by_cases he : ae = 0
  · subst he
    rw [if_pos rfl] at hR
    have hl := hal rfl
    have hl2 : (keyW ++ n).length ≤ 1000 := by unfold keyW; simp; omega
    have hkl := hmF_len kt m (keyW ++ n)
    unfold stV
    simp (maxSteps := 1000000) (disch := first | omega | (simp only [sizeAlloc, sizeDrew, sizeSet, sizePut] <;> omega) | fail) only [GS, TT_eq, TTl, Nat.reduceAdd, Nat.reduceMul, Nat.reduceSub, Nat.reduceDiv, Nat.reduceMod, Nat.reducePow, Nat.reduceEqDiff, ↓reduceIte, reduceCtorEq, Int.reduceToNat, Int.reduceAdd, Int.reduceSub, Int.reduceMul, hB1]
    refine ⟨fok129, hmSum_cps kt m (keyW ++ n) (by omega) (by omega) _ (hK.mod hM01 (by simp)) _ fun w2 hM2 => .inl ⟨_, rfl, hold_ops okT (rs := [.tmp 4, .tmp 5]) rfl ?_⟩⟩
    generalize hmF kt m (keyW ++ n) = K at *
    simp (maxSteps := 1000000) (disch := first | omega | (simp only [sizeAlloc, sizeDrew, sizeSet, sizePut] <;> omega) | fail) only [GS, TT_eq, TTl, Nat.reduceAdd, Nat.reduceMul, Nat.reduceSub, Nat.reduceDiv, Nat.reduceMod, Nat.reducePow, Nat.reduceEqDiff, ↓reduceIte, reduceCtorEq, Int.reduceToNat, Int.reduceAdd, Int.reduceSub, Int.reduceMul]
    refine ⟨fok30, tData_cps K (by unfold maxLen; omega) _ _ fun w3 hM3 => .inl ⟨_, rfl, hold_ops okT (rs := [.tmp 4, .tmp 5]) rfl ?_⟩⟩
    unfold stV at hR ⊢
    simp (maxSteps := 1000000) (disch := first | omega | (simp only [sizeAlloc, sizeDrew, sizeSet, sizePut] <;> omega) | fail) only [GS, TT_eq, TTl, Nat.reduceAdd, Nat.reduceMul, Nat.reduceSub, Nat.reduceDiv, Nat.reduceMod, Nat.reducePow, Nat.reduceEqDiff, ↓reduceIte, reduceCtorEq, Int.reduceToNat, Int.reduceAdd, Int.reduceSub, Int.reduceMul]
    exact hR _ ((hM01.trans hM2 (by simp)).trans hM3 (by simp))
  · rw [if_neg he] at hR
    unfold stV at hR ⊢
    simp (maxSteps := 1000000) (disch := first | omega | (simp only [sizeAlloc, sizeDrew, sizeSet, sizePut] <;> omega) | fail) only [GS, TT_eq, TTl, Nat.reduceAdd, Nat.reduceMul, Nat.reduceSub, Nat.reduceDiv, Nat.reduceMod, Nat.reducePow, Nat.reduceEqDiff, ↓reduceIte, reduceCtorEq, Int.reduceToNat, Int.reduceAdd, Int.reduceSub, Int.reduceMul, he]
    exact hR _ hM01
set_option maxHeartbeats 2000000 in
theorem byHash_cps (kt : List Int) (m t : List UInt8) (ht : t.length ≤ 1000000) (w : World) (hK : KTab w kt) (R : Ending → World → Prop) (hR : ∀ w', Mod [] w w' → R (.returned (stV (hashBy kt t))) w') :
    Calls Try.prog 123 #[.agg #[.string ⟨m.toArray⟩], .string ⟨t.toArray⟩] w R := by
  unfold hashBy at hR
  refine calls_go 4000 okT Try.func123 rfl (rs := [.tmp 4, .tmp 5]) rfl Try.ntmps123 (args := [.agg #[.string ⟨m.toArray⟩], .string ⟨t.toArray⟩]) ?_
  simp (maxSteps := 1000000) (disch := first | omega | (simp only [sizeAlloc, sizeDrew, sizeSet, sizePut] <;> omega) | fail) only [GS, TT_eq, TTl, Nat.reduceAdd, Nat.reduceMul, Nat.reduceSub, Nat.reduceDiv, Nat.reduceMod, Nat.reducePow, Nat.reduceEqDiff, ↓reduceIte, reduceCtorEq, Int.reduceToNat, Int.reduceAdd, Int.reduceSub, Int.reduceMul]
  have hM0 := (Mod.refl [] w).alloc (.cells #[.string ⟨m.toArray⟩] 78)
  generalize w.alloc _ = w0 at *
  have hkl := shF_len kt t
  refine ⟨fok128, shaText_cps kt t (by omega) _ (hK.mod hM0 (by simp)) _ fun w2 hM2 => .inl ⟨_, rfl, hold_ops okT (rs := [.tmp 4, .tmp 5]) rfl ?_⟩⟩
  generalize shF kt t = K at *
  simp (maxSteps := 1000000) (disch := first | omega | (simp only [sizeAlloc, sizeDrew, sizeSet, sizePut] <;> omega) | fail) only [GS, TT_eq, TTl, Nat.reduceAdd, Nat.reduceMul, Nat.reduceSub, Nat.reduceDiv, Nat.reduceMod, Nat.reducePow, Nat.reduceEqDiff, ↓reduceIte, reduceCtorEq, Int.reduceToNat, Int.reduceAdd, Int.reduceSub, Int.reduceMul]
  refine ⟨fok30, tData_cps K (by unfold maxLen; omega) _ _ fun w3 hM3 => .inl ⟨_, rfl, hold_ops okT (rs := [.tmp 4, .tmp 5]) rfl ?_⟩⟩
  unfold stV at hR ⊢
  simp (maxSteps := 1000000) (disch := first | omega | (simp only [sizeAlloc, sizeDrew, sizeSet, sizePut] <;> omega) | fail) only [GS, TT_eq, TTl, Nat.reduceAdd, Nat.reduceMul, Nat.reduceSub, Nat.reduceDiv, Nat.reduceMod, Nat.reducePow, Nat.reduceEqDiff, ↓reduceIte, reduceCtorEq, Int.reduceToNat, Int.reduceAdd, Int.reduceSub, Int.reduceMul]
  exact hR _ ((hM0.trans hM2 (by simp)).trans hM3 (by simp))
set_option maxHeartbeats 2000000 in
theorem byMac_cps (kt : List Int) (m k t : List UInt8) (hk : k.length ≤ 1000000) (ht : t.length ≤ 1000000) (w : World) (hK : KTab w kt) (R : Ending → World → Prop) (hR : ∀ w', Mod [] w w' → R (.returned (stV (macBy kt k t))) w') :
    Calls Try.prog 125 #[.agg #[.string ⟨m.toArray⟩], .string ⟨k.toArray⟩, .string ⟨t.toArray⟩] w R := by
  unfold macBy at hR
  refine calls_go 4000 okT Try.func125 rfl (rs := [.tmp 6, .tmp 7]) rfl Try.ntmps125 (args := [.agg #[.string ⟨m.toArray⟩], .string ⟨k.toArray⟩, .string ⟨t.toArray⟩]) ?_
  simp (maxSteps := 1000000) (disch := first | omega | (simp only [sizeAlloc, sizeDrew, sizeSet, sizePut] <;> omega) | fail) only [GS, TT_eq, TTl, Nat.reduceAdd, Nat.reduceMul, Nat.reduceSub, Nat.reduceDiv, Nat.reduceMod, Nat.reducePow, Nat.reduceEqDiff, ↓reduceIte, reduceCtorEq, Int.reduceToNat, Int.reduceAdd, Int.reduceSub, Int.reduceMul]
  have hM0 := (Mod.refl [] w).alloc (.cells #[.string ⟨m.toArray⟩] 78)
  generalize w.alloc _ = w0 at *
  refine ⟨fok130, sText_cps k (by unfold maxLen; omega) _ _ fun w1 hM1 => .inl ⟨_, rfl, hold_ops okT (rs := [.tmp 6, .tmp 7]) rfl ?_⟩⟩
  have hM01 := hM0.trans hM1 (by simp)
  have htl := text_len k
  by_cases h1 : kindS k = 1
  · rw [if_pos h1] at hR
    rw [decide_eq_true h1]
    generalize (textS k).1 = tk at *
    simp (maxSteps := 1000000) (disch := first | omega | (simp only [sizeAlloc, sizeDrew, sizeSet, sizePut] <;> omega) | fail) only [GS, TT_eq, TTl, Nat.reduceAdd, Nat.reduceMul, Nat.reduceSub, Nat.reduceDiv, Nat.reduceMod, Nat.reducePow, Nat.reduceEqDiff, ↓reduceIte, reduceCtorEq, Int.reduceToNat, Int.reduceAdd, Int.reduceSub, Int.reduceMul]
    have hkl := hmF_len kt tk t
    refine ⟨fok129, hmSum_cps kt tk t (by omega) (by omega) _ (hK.mod hM01 (by simp)) _ fun w2 hM2 => .inl ⟨_, rfl, hold_ops okT (rs := [.tmp 6, .tmp 7]) rfl ?_⟩⟩
    generalize hmF kt tk t = K at *
    simp (maxSteps := 1000000) (disch := first | omega | (simp only [sizeAlloc, sizeDrew, sizeSet, sizePut] <;> omega) | fail) only [GS, TT_eq, TTl, Nat.reduceAdd, Nat.reduceMul, Nat.reduceSub, Nat.reduceDiv, Nat.reduceMod, Nat.reducePow, Nat.reduceEqDiff, ↓reduceIte, reduceCtorEq, Int.reduceToNat, Int.reduceAdd, Int.reduceSub, Int.reduceMul]
    refine ⟨fok30, tData_cps K (by unfold maxLen; omega) _ _ fun w3 hM3 => .inl ⟨_, rfl, hold_ops okT (rs := [.tmp 6, .tmp 7]) rfl ?_⟩⟩
    unfold stV at hR ⊢
    simp (maxSteps := 1000000) (disch := first | omega | (simp only [sizeAlloc, sizeDrew, sizeSet, sizePut] <;> omega) | fail) only [GS, TT_eq, TTl, Nat.reduceAdd, Nat.reduceMul, Nat.reduceSub, Nat.reduceDiv, Nat.reduceMod, Nat.reducePow, Nat.reduceEqDiff, ↓reduceIte, reduceCtorEq, Int.reduceToNat, Int.reduceAdd, Int.reduceSub, Int.reduceMul]
    exact hR _ ((hM01.trans hM2 (by simp)).trans hM3 (by simp))
  · rw [if_neg h1] at hR
    rw [decide_eq_false h1]
    unfold stV at hR
    simp (maxSteps := 1000000) (disch := first | omega | (simp only [sizeAlloc, sizeDrew, sizeSet, sizePut] <;> omega) | fail) only [GS, TT_eq, TTl, Nat.reduceAdd, Nat.reduceMul, Nat.reduceSub, Nat.reduceDiv, Nat.reduceMod, Nat.reducePow, Nat.reduceEqDiff, ↓reduceIte, reduceCtorEq, Int.reduceToNat, Int.reduceAdd, Int.reduceSub, Int.reduceMul]
    exact hR _ hM01
set_option maxHeartbeats 4000000 in
theorem bySeal_cps (kt : List Int) (m k n t : List UInt8) (hk : k.length ≤ 1000000) (hn : n.length ≤ 1000000) (ht : t.length ≤ 1000000) (w : World) (hK : KTab w kt) (R : Ending → World → Prop) (hR : ∀ w', Mod [] w w' → R (.returned (stV (sealBy kt k n t))) w') :
    Calls Try.prog 127 #[.agg #[.string ⟨m.toArray⟩], .string ⟨k.toArray⟩, .string ⟨n.toArray⟩, .string ⟨t.toArray⟩] w R := by
  unfold sealBy at hR
  refine calls_go 4000 okT Try.func127 rfl (rs := [.tmp 8, .tmp 9]) rfl Try.ntmps127 (args := [.agg #[.string ⟨m.toArray⟩], .string ⟨k.toArray⟩, .string ⟨n.toArray⟩, .string ⟨t.toArray⟩]) ?_
  simp (maxSteps := 1000000) (disch := first | omega | (simp only [sizeAlloc, sizeDrew, sizeSet, sizePut] <;> omega) | fail) only [GS, TT_eq, TTl, Nat.reduceAdd, Nat.reduceMul, Nat.reduceSub, Nat.reduceDiv, Nat.reduceMod, Nat.reducePow, Nat.reduceEqDiff, ↓reduceIte, reduceCtorEq, Int.reduceToNat, Int.reduceAdd, Int.reduceSub, Int.reduceMul]
  have hM0 := (Mod.refl [] w).alloc (.cells #[.string ⟨m.toArray⟩] 78)
  generalize w.alloc _ = w0 at *
  refine ⟨fok130, sText_cps k (by unfold maxLen; omega) _ _ fun w1 hM1 => .inl ⟨_, rfl, hold_ops okT (rs := [.tmp 8, .tmp 9]) rfl ?_⟩⟩
  have hM01 := hM0.trans hM1 (by simp)
  simp (maxSteps := 1000000) (disch := first | omega | (simp only [sizeAlloc, sizeDrew, sizeSet, sizePut] <;> omega) | fail) only [GS, TT_eq, TTl, Nat.reduceAdd, Nat.reduceMul, Nat.reduceSub, Nat.reduceDiv, Nat.reduceMod, Nat.reducePow, Nat.reduceEqDiff, ↓reduceIte, reduceCtorEq, Int.reduceToNat, Int.reduceAdd, Int.reduceSub, Int.reduceMul]
  refine ⟨fok130, sText_cps n (by unfold maxLen; omega) _ _ fun w2 hM2 => .inl ⟨_, rfl, hold_ops okT (rs := [.tmp 8, .tmp 9]) rfl ?_⟩⟩
  have hM02 := hM01.trans hM2 (by simp)
  have htl := text_len k
  have htn := text_len n
  by_cases h1 : kindS k = 1
  rotate_left
  · rw [if_neg (fun e => h1 e.1)] at hR
    rw [decide_eq_false h1]
    unfold stV at hR
    simp (maxSteps := 1000000) (disch := first | omega | (simp only [sizeAlloc, sizeDrew, sizeSet, sizePut] <;> omega) | fail) only [GS, TT_eq, TTl, Nat.reduceAdd, Nat.reduceMul, Nat.reduceSub, Nat.reduceDiv, Nat.reduceMod, Nat.reducePow, Nat.reduceEqDiff, ↓reduceIte, reduceCtorEq, Int.reduceToNat, Int.reduceAdd, Int.reduceSub, Int.reduceMul]
    exact hR _ hM02
  by_cases h2 : kindS n = 1
  rotate_left
  · rw [if_neg (fun e => h2 e.2)] at hR
    rw [decide_eq_true h1, decide_eq_false h2]
    unfold stV at hR
    simp (maxSteps := 1000000) (disch := first | omega | (simp only [sizeAlloc, sizeDrew, sizeSet, sizePut] <;> omega) | fail) only [GS, TT_eq, TTl, Nat.reduceAdd, Nat.reduceMul, Nat.reduceSub, Nat.reduceDiv, Nat.reduceMod, Nat.reducePow, Nat.reduceEqDiff, ↓reduceIte, reduceCtorEq, Int.reduceToNat, Int.reduceAdd, Int.reduceSub, Int.reduceMul]
    exact hR _ hM02
  rw [if_pos ⟨h1, h2⟩] at hR
  rw [decide_eq_true h1, decide_eq_true h2]
  generalize (textS k).1 = tk at *
  generalize (textS n).1 = tn at *
  simp (maxSteps := 1000000) (disch := first | omega | (simp only [sizeAlloc, sizeDrew, sizeSet, sizePut] <;> omega) | fail) only [GS, TT_eq, TTl, Nat.reduceAdd, Nat.reduceMul, Nat.reduceSub, Nat.reduceDiv, Nat.reduceMod, Nat.reducePow, Nat.reduceEqDiff, ↓reduceIte, reduceCtorEq, Int.reduceToNat, Int.reduceAdd, Int.reduceSub, Int.reduceMul]
  refine ⟨fok132, cSeal_cps kt tk tn t (by omega) (by omega) ht _ (hK.mod hM02 (by simp)) _ fun w3 hM3 => .inl ⟨_, rfl, hold_ops okT (rs := [.tmp 8, .tmp 9]) rfl ?_⟩⟩
  have hM03 := hM02.trans hM3 (by simp)
  have hsl : (sealC kt tk tn t).1.length ≤ 2000000 := by
    unfold sealC
    split
    · split
      · simp
      · rename_i h5 h6
        have e1 : (turnC kt tk tn t).length = t.length := trnF_len _ _ _
        have e2 : ∀ x, (tagC kt tk x).length = 32 := fun x => hmF_len _ _ _
        simp only [List.length_append, e1, e2]
        omega
    · simp
  generalize sealC kt tk tn t = X at *
  obtain ⟨x, e⟩ := X
  by_cases he : e = 0
  · subst he
    rw [if_pos rfl] at hR
    unfold stV
    simp (maxSteps := 1000000) (disch := first | omega | (simp only [sizeAlloc, sizeDrew, sizeSet, sizePut] <;> omega) | fail) only [GS, TT_eq, TTl, Nat.reduceAdd, Nat.reduceMul, Nat.reduceSub, Nat.reduceDiv, Nat.reduceMod, Nat.reducePow, Nat.reduceEqDiff, ↓reduceIte, reduceCtorEq, Int.reduceToNat, Int.reduceAdd, Int.reduceSub, Int.reduceMul]
    refine ⟨fok30, tData_cps x (by unfold maxLen; simp only at hsl; omega) _ _ fun w4 hM4 => .inl ⟨_, rfl, hold_ops okT (rs := [.tmp 8, .tmp 9]) rfl ?_⟩⟩
    unfold stV at hR ⊢
    simp (maxSteps := 1000000) (disch := first | omega | (simp only [sizeAlloc, sizeDrew, sizeSet, sizePut] <;> omega) | fail) only [GS, TT_eq, TTl, Nat.reduceAdd, Nat.reduceMul, Nat.reduceSub, Nat.reduceDiv, Nat.reduceMod, Nat.reducePow, Nat.reduceEqDiff, ↓reduceIte, reduceCtorEq, Int.reduceToNat, Int.reduceAdd, Int.reduceSub, Int.reduceMul]
    exact hR _ (hM03.trans hM4 (by simp))
  · rw [if_neg he] at hR
    unfold stV at hR ⊢
    simp (maxSteps := 1000000) (disch := first | omega | (simp only [sizeAlloc, sizeDrew, sizeSet, sizePut] <;> omega) | fail) only [GS, TT_eq, TTl, Nat.reduceAdd, Nat.reduceMul, Nat.reduceSub, Nat.reduceDiv, Nat.reduceMod, Nat.reducePow, Nat.reduceEqDiff, ↓reduceIte, reduceCtorEq, Int.reduceToNat, Int.reduceAdd, Int.reduceSub, Int.reduceMul, he]
    exact hR _ hM03
set_option maxHeartbeats 4000000 in
theorem byOpen_cps (kt : List Int) (m k x : List UInt8) (hk : k.length ≤ 1000000) (hx : x.length ≤ 1000000) (w : World) (hK : KTab w kt) (R : Ending → World → Prop) (hR : ∀ w', Mod [] w w' → R (.returned (stV (openBy kt k x))) w') :
    Calls Try.prog 126 #[.agg #[.string ⟨m.toArray⟩], .string ⟨k.toArray⟩, .string ⟨x.toArray⟩] w R := by
  unfold openBy at hR
  refine calls_go 4000 okT Try.func126 rfl (rs := [.tmp 6, .tmp 7]) rfl Try.ntmps126 (args := [.agg #[.string ⟨m.toArray⟩], .string ⟨k.toArray⟩, .string ⟨x.toArray⟩]) ?_
  simp (maxSteps := 1000000) (disch := first | omega | (simp only [sizeAlloc, sizeDrew, sizeSet, sizePut] <;> omega) | fail) only [GS, TT_eq, TTl, Nat.reduceAdd, Nat.reduceMul, Nat.reduceSub, Nat.reduceDiv, Nat.reduceMod, Nat.reducePow, Nat.reduceEqDiff, ↓reduceIte, reduceCtorEq, Int.reduceToNat, Int.reduceAdd, Int.reduceSub, Int.reduceMul]
  have hM0 := (Mod.refl [] w).alloc (.cells #[.string ⟨m.toArray⟩] 78)
  generalize w.alloc _ = w0 at *
  refine ⟨fok130, sText_cps k (by unfold maxLen; omega) _ _ fun w1 hM1 => .inl ⟨_, rfl, hold_ops okT (rs := [.tmp 6, .tmp 7]) rfl ?_⟩⟩
  have hM01 := hM0.trans hM1 (by simp)
  have htl := text_len k
  have htn := text_len x
  by_cases h1 : kindS k = 1
  rotate_left
  · rw [if_neg h1] at hR
    rw [decide_eq_false h1]
    unfold stV at hR
    simp (maxSteps := 1000000) (disch := first | omega | (simp only [sizeAlloc, sizeDrew, sizeSet, sizePut] <;> omega) | fail) only [GS, TT_eq, TTl, Nat.reduceAdd, Nat.reduceMul, Nat.reduceSub, Nat.reduceDiv, Nat.reduceMod, Nat.reducePow, Nat.reduceEqDiff, ↓reduceIte, reduceCtorEq, Int.reduceToNat, Int.reduceAdd, Int.reduceSub, Int.reduceMul]
    exact hR _ hM01
  rw [if_pos h1] at hR
  rw [decide_eq_true h1]
  simp (maxSteps := 1000000) (disch := first | omega | (simp only [sizeAlloc, sizeDrew, sizeSet, sizePut] <;> omega) | fail) only [GS, TT_eq, TTl, Nat.reduceAdd, Nat.reduceMul, Nat.reduceSub, Nat.reduceDiv, Nat.reduceMod, Nat.reducePow, Nat.reduceEqDiff, ↓reduceIte, reduceCtorEq, Int.reduceToNat, Int.reduceAdd, Int.reduceSub, Int.reduceMul]
  refine ⟨fok130, sText_cps x (by unfold maxLen; omega) _ _ fun w2 hM2 => .inl ⟨_, rfl, hold_ops okT (rs := [.tmp 6, .tmp 7]) rfl ?_⟩⟩
  have hM02 := hM01.trans hM2 (by simp)
  by_cases h2 : kindS x = 1
  rotate_left
  · rw [if_neg h2] at hR
    rw [decide_eq_false h2]
    unfold stV at hR
    simp (maxSteps := 1000000) (disch := first | omega | (simp only [sizeAlloc, sizeDrew, sizeSet, sizePut] <;> omega) | fail) only [GS, TT_eq, TTl, Nat.reduceAdd, Nat.reduceMul, Nat.reduceSub, Nat.reduceDiv, Nat.reduceMod, Nat.reducePow, Nat.reduceEqDiff, ↓reduceIte, reduceCtorEq, Int.reduceToNat, Int.reduceAdd, Int.reduceSub, Int.reduceMul]
    exact hR _ hM02
  rw [if_pos h2] at hR
  rw [decide_eq_true h2]
  generalize (textS k).1 = tk at *
  generalize (textS x).1 = tx at *
  simp (maxSteps := 1000000) (disch := first | omega | (simp only [sizeAlloc, sizeDrew, sizeSet, sizePut] <;> omega) | fail) only [GS, TT_eq, TTl, Nat.reduceAdd, Nat.reduceMul, Nat.reduceSub, Nat.reduceDiv, Nat.reduceMod, Nat.reducePow, Nat.reduceEqDiff, ↓reduceIte, reduceCtorEq, Int.reduceToNat, Int.reduceAdd, Int.reduceSub, Int.reduceMul]
  refine ⟨fok131, cOpen_cps kt tk tx (by omega) (by omega) _ (hK.mod hM02 (by simp)) _ fun w3 hM3 => .inl ⟨_, rfl, hold_ops okT (rs := [.tmp 6, .tmp 7]) rfl ?_⟩⟩
  have hM03 := hM02.trans hM3 (by simp)
  have hsl : (openC kt tk tx).1.length ≤ tx.length := by
    unfold openC turnC
    repeat' split
    all_goals simp only [trnF_len, List.length_nil, List.length_drop, List.length_take]
    all_goals omega
  generalize openC kt tk tx = X at *
  obtain ⟨y, e⟩ := X
  simp only at hsl
  by_cases he : e = 0
  rotate_left
  · rw [if_neg he] at hR
    unfold stV at hR ⊢
    simp (maxSteps := 1000000) (disch := first | omega | (simp only [sizeAlloc, sizeDrew, sizeSet, sizePut] <;> omega) | fail) only [GS, TT_eq, TTl, Nat.reduceAdd, Nat.reduceMul, Nat.reduceSub, Nat.reduceDiv, Nat.reduceMod, Nat.reducePow, Nat.reduceEqDiff, ↓reduceIte, reduceCtorEq, Int.reduceToNat, Int.reduceAdd, Int.reduceSub, Int.reduceMul, he]
    exact hR _ hM03
  subst he
  rw [if_pos rfl] at hR
  unfold stV
  simp (maxSteps := 1000000) (disch := first | omega | (simp only [sizeAlloc, sizeDrew, sizeSet, sizePut] <;> omega) | fail) only [GS, TT_eq, TTl, Nat.reduceAdd, Nat.reduceMul, Nat.reduceSub, Nat.reduceDiv, Nat.reduceMod, Nat.reducePow, Nat.reduceEqDiff, ↓reduceIte, reduceCtorEq, Int.reduceToNat, Int.reduceAdd, Int.reduceSub, Int.reduceMul]
  refine ⟨fok25, tCheck_cps y (by unfold maxLen; omega) _ _ fun w4 hM4 => .inl ⟨_, rfl, hold_ops okT (rs := [.tmp 6, .tmp 7]) rfl ?_⟩⟩
  by_cases hc : checkS y = 0
  · rw [if_pos hc] at hR
    unfold stV at hR
    simp (maxSteps := 1000000) (disch := first | omega | (simp only [sizeAlloc, sizeDrew, sizeSet, sizePut] <;> omega) | fail) only [GS, TT_eq, TTl, Nat.reduceAdd, Nat.reduceMul, Nat.reduceSub, Nat.reduceDiv, Nat.reduceMod, Nat.reducePow, Nat.reduceEqDiff, ↓reduceIte, reduceCtorEq, Int.reduceToNat, Int.reduceAdd, Int.reduceSub, Int.reduceMul, hc]
    exact hR _ (hM03.trans hM4 (by simp))
  · rw [if_neg hc] at hR
    unfold stV at hR
    simp (maxSteps := 1000000) (disch := first | omega | (simp only [sizeAlloc, sizeDrew, sizeSet, sizePut] <;> omega) | fail) only [GS, TT_eq, TTl, Nat.reduceAdd, Nat.reduceMul, Nat.reduceSub, Nat.reduceDiv, Nat.reduceMod, Nat.reducePow, Nat.reduceEqDiff, ↓reduceIte, reduceCtorEq, Int.reduceToNat, Int.reduceAdd, Int.reduceSub, Int.reduceMul, hc]
    exact hR _ (hM03.trans hM4 (by simp))
end Go.Proofs.Ytoladcdelaemoaa
