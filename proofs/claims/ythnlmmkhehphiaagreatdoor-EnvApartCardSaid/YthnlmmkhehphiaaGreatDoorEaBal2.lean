/-
  ballot: Digest, Tag, Fits, of a suite of terms (walks).
-/
import Derived.Test.YthnlmmkhehphiaaGreatDoorEaBal1
import Derived.Test.YthnlmmkhehphiaaGreatDoorEaKey1
set_option linter.unusedSimpArgs false
set_option linter.unusedVariables false
set_option maxRecDepth 20000
namespace Go.Proofs.YthnlmmkhehphiaaGreatDoor
open Go Go.Wk Go.RowKit
attribute [local irreducible] go Hold
open Go.Lib
/-- The tag of a ballot, in a suite of terms. -/
def tagS (x : Tx) (aud : Int) (mbs : List Mb) (org : Int) : List UInt8 × Int := if (bodyS x aud mbs org).2 = 0 then madeS [109] [(atomS (keyL 1 org aud)).1, (bodyS x aud mbs org).1] else ([], (bodyS x aud mbs org).2)
theorem body_is {x : Tx} {aud : Int} {mbs : List Mb} {org : Int} (h : (bodyS x aud mbs org).2 = 0) : balB x aud mbs org = true := by
  unfold bodyS at h
  split at h
  · assumption
  · simp at h
theorem body_len (x : Tx) (aud : Int) (mbs : List Mb) (org : Int) : (bodyS x aud mbs org).1.length ≤ 16384 := by
  unfold bodyS
  split
  · split
    · exact made_len _ _
    · simp
  · simp
theorem tag_len13 (x : Tx) (aud : Int) (mbs : List Mb) (org : Int) : (tagS x aud mbs org).1.length ≤ 16384 := by
  unfold tagS
  split
  · exact made_len _ _
  · simp
theorem atomS_len (s : List UInt8) : (atomS s).1.length ≤ 1000000 := by
  unfold atomS
  repeat' split
  · simp
  · rename_i h _
    have := numL_len (v := s.length) (by omega)
    simp
    omega
  · simp
set_option maxRecDepth 20000 in
set_option maxHeartbeats 8000000 in
theorem bTag_cps (s : Nat) (x : Tx) (aud : Int) (ms : Value) (mbs : List Mb) (org : Int) (w : World) (hl : mbs.length ≤ 1000000) (hd : ∀ m ∈ mbs, m.2.length ≤ maxLen) (ha : Rd w 2 ms mbs.length (mbs.flatMap mbC)) (hs : isSui w s) (hg : KG w) (R : Ending → World → Prop) (hR : ∀ w', Mod [] w w' → R (.returned (stV (tagS x aud mbs org))) w') :
    Calls Tryz.prog 11 #[.pointer (some ⟨s, 0, none⟩), balV x aud ms org] w R := by
  have hBd := fun w h => bBody_cps x aud ms mbs org w hl hd h
  have hbi := fun h => (bal_is (body_is (x := x) (aud := aud) (mbs := mbs) (org := org) h))
  have hbl := body_len x aud mbs org
  have os : ms.oneCell' = true := by obtain ⟨a, c, e⟩ := ha.slice; rw [e]; rfl
  unfold tagS at hR
  generalize bodyS x aud mbs org = D at *
  obtain ⟨dt, de⟩ := D
  obtain ⟨a, b, c⟩ := x
  unfold balV at hBd ⊢
  simp only at hBd hR hbi hbl ⊢
  refine calls_go 4000 okT Tryz.func11 rfl (rs := [.tmp 4, .tmp 5]) rfl Tryz.ntmps11 (args := [.pointer (some ⟨s, 0, none⟩), .agg #[.int .i64 a, .int .i64 b, .int .i64 c, .int .i64 aud, ms, .int .i64 org]]) ?_
  simp (maxSteps := 1000000) (disch := first | omega | (simp only [sizeAlloc, sizeDrew, sizeSet, sizePut] <;> omega) | fail) only [GS, TT_eq, TTl, Nat.reduceAdd, Nat.reduceMul, Nat.reduceSub, Nat.reduceDiv, Nat.reduceMod, Nat.reducePow, Nat.reduceEqDiff, ↓reduceIte, reduceCtorEq, Int.reduceToNat, Int.reduceAdd, Int.reduceSub, Int.reduceMul, os, cellsL_one os]
  generalize hW : w.alloc (.cells #[.int .i64 a, .int .i64 b, .int .i64 c, .int .i64 aud, ms, .int .i64 org] 26) = w1
  obtain ⟨hA, hM0⟩ := bx6 hW
  clear hW
  generalize hn : w.heap.size = n at *
  refine ⟨fok29, hBd _ (ha.mod hM0 (by simp)) _ fun w2 hM2 => .inl ⟨_, rfl, hold_ops okT (rs := [.tmp 4, .tmp 5]) rfl ?_⟩⟩
  have hA2 := hM2.get hA (by simp)
  have hM02 := hM0.trans hM2 (by simp)
  have c2 := fun o => cellOf (o := o) hA2
  unfold stV
  by_cases he : de = 0
  rotate_left
  · rw [if_neg he] at hR
    unfold stV at hR
    simp (maxSteps := 1000000) (disch := first | omega | (simp only [sizeAlloc, sizeDrew, sizeSet, sizePut] <;> omega) | fail) only [GS, TT_eq, TTl, Nat.reduceAdd, Nat.reduceMul, Nat.reduceSub, Nat.reduceDiv, Nat.reduceMod, Nat.reducePow, Nat.reduceEqDiff, ↓reduceIte, reduceCtorEq, Int.reduceToNat, Int.reduceAdd, Int.reduceSub, Int.reduceMul, he]
    exact hR _ hM02
  rw [if_pos he] at hR
  obtain ⟨-, hau, -, hog⟩ := hbi he
  subst he
  simp (maxSteps := 1000000) (disch := first | omega | (simp only [sizeAlloc, sizeDrew, sizeSet, sizePut] <;> omega) | fail) only [GS, TT_eq, TTl, Nat.reduceAdd, Nat.reduceMul, Nat.reduceSub, Nat.reduceDiv, Nat.reduceMod, Nat.reducePow, Nat.reduceEqDiff, ↓reduceIte, reduceCtorEq, Int.reduceToNat, Int.reduceAdd, Int.reduceSub, Int.reduceMul, c2]
  refine ⟨fok40, kTag_cps org aud _ _ (hg.mod hM02 (by simp)) fun w3 hM3 => .inl ⟨_, rfl, hold_ops okT (rs := [.tmp 4, .tmp 5]) rfl ?_⟩⟩
  have hM03 := hM02.trans hM3 (by simp)
  have hkl : (keyL 1 org aud).length ≤ maxLen := by unfold keyL maxLen; simp
  unfold keyA
  rw [if_pos (show pairOk org aud from ⟨⟨hog.1, hog.2⟩, hau.1, hau.2⟩)]
  generalize keyL 1 org aud = kn at *
  simp (maxSteps := 1000000) (disch := first | omega | (simp only [sizeAlloc, sizeDrew, sizeSet, sizePut] <;> omega) | fail) only [GS, TT_eq, TTl, Nat.reduceAdd, Nat.reduceMul, Nat.reduceSub, Nat.reduceDiv, Nat.reduceMod, Nat.reducePow, Nat.reduceEqDiff, ↓reduceIte, reduceCtorEq, Int.reduceToNat, Int.reduceAdd, Int.reduceSub, Int.reduceMul]
  refine ⟨fok41, sKey_cps s kn hkl _ (hs.mod hM03) _ fun w4 hM4 => .inl ⟨_, rfl, hold_ops okT (rs := [.tmp 4, .tmp 5]) rfl ?_⟩⟩
  have hM04 := hM03.trans hM4 (by simp)
  have hal := atomS_len kn
  generalize atomS kn = Ak at *
  obtain ⟨at_, ae⟩ := Ak
  unfold stV
  simp only at hal hR
  simp (maxSteps := 1000000) (disch := first | omega | (simp only [sizeAlloc, sizeDrew, sizeSet, sizePut] <;> omega) | fail) only [GS, TT_eq, TTl, Nat.reduceAdd, Nat.reduceMul, Nat.reduceSub, Nat.reduceDiv, Nat.reduceMod, Nat.reducePow, Nat.reduceEqDiff, ↓reduceIte, reduceCtorEq, Int.reduceToNat, Int.reduceAdd, Int.reduceSub, Int.reduceMul]
  refine ⟨fok42, sMac_cps s at_ dt hal (by omega) _ (hs.mod hM04) _ fun w5 hM5 => .inl ⟨_, rfl, hold_ops okT (rs := [.tmp 4, .tmp 5]) rfl ?_⟩⟩
  have hM05 := hM04.trans hM5 (by simp)
  unfold stV at hR ⊢
  simp (maxSteps := 1000000) (disch := first | omega | (simp only [sizeAlloc, sizeDrew, sizeSet, sizePut] <;> omega) | fail) only [GS, TT_eq, TTl, Nat.reduceAdd, Nat.reduceMul, Nat.reduceSub, Nat.reduceDiv, Nat.reduceMod, Nat.reducePow, Nat.reduceEqDiff, ↓reduceIte, reduceCtorEq, Int.reduceToNat, Int.reduceAdd, Int.reduceSub, Int.reduceMul]
  exact hR _ hM05
set_option maxRecDepth 20000 in
set_option maxHeartbeats 8000000 in
theorem bFits_cps (s : Nat) (x : Tx) (aud : Int) (ms : Value) (mbs : List Mb) (org : Int) (t : List UInt8) (w : World) (hl : mbs.length ≤ 1000000) (hd : ∀ m ∈ mbs, m.2.length ≤ maxLen) (ha : Rd w 2 ms mbs.length (mbs.flatMap mbC)) (hs : isSui w s) (hg : KG w) (R : Ending → World → Prop) (hR : ∀ w', Mod [] w w' → R (.returned (.bool (decide ((tagS x aud mbs org).2 = 0) && decide ((tagS x aud mbs org).1 = t)))) w') :
    Calls Tryz.prog 13 #[.pointer (some ⟨s, 0, none⟩), balV x aud ms org, .string ⟨t.toArray⟩] w R := by
  have hTg := fun w h => bTag_cps s x aud ms mbs org w hl hd h
  have htl := tag_len13 x aud mbs org
  have os : ms.oneCell' = true := by obtain ⟨a, c, e⟩ := ha.slice; rw [e]; rfl
  generalize tagS x aud mbs org = D at *
  obtain ⟨dt, de⟩ := D
  obtain ⟨a, b, c⟩ := x
  unfold balV at hTg ⊢
  unfold stV at hTg
  simp only at hTg hR htl ⊢
  refine calls_go 4000 okT Tryz.func13 rfl (rs := [.tmp 6]) rfl Tryz.ntmps13 (args := [.pointer (some ⟨s, 0, none⟩), .agg #[.int .i64 a, .int .i64 b, .int .i64 c, .int .i64 aud, ms, .int .i64 org], .string ⟨t.toArray⟩]) ?_
  simp (maxSteps := 1000000) (disch := first | omega | (simp only [sizeAlloc, sizeDrew, sizeSet, sizePut] <;> omega) | fail) only [GS, TT_eq, TTl, Nat.reduceAdd, Nat.reduceMul, Nat.reduceSub, Nat.reduceDiv, Nat.reduceMod, Nat.reducePow, Nat.reduceEqDiff, ↓reduceIte, reduceCtorEq, Int.reduceToNat, Int.reduceAdd, Int.reduceSub, Int.reduceMul, os, cellsL_one os]
  generalize hW : w.alloc (.cells #[.int .i64 a, .int .i64 b, .int .i64 c, .int .i64 aud, ms, .int .i64 org] 26) = w1
  obtain ⟨hA, hM0⟩ := bx6 hW
  clear hW
  refine ⟨fok11, hTg _ (ha.mod hM0 (by simp)) (hs.mod hM0) (hg.mod hM0 (by simp)) _ fun w2 hM2 => .inl ⟨_, rfl, hold_ops okT (rs := [.tmp 6]) rfl ?_⟩⟩
  have hM02 := hM0.trans hM2 (by simp)
  by_cases he : de = 0
  rotate_left
  · rw [decide_eq_false he, Bool.false_and] at hR
    simp (maxSteps := 1000000) (disch := first | omega | (simp only [sizeAlloc, sizeDrew, sizeSet, sizePut] <;> omega) | fail) only [GS, TT_eq, TTl, Nat.reduceAdd, Nat.reduceMul, Nat.reduceSub, Nat.reduceDiv, Nat.reduceMod, Nat.reducePow, Nat.reduceEqDiff, ↓reduceIte, reduceCtorEq, Int.reduceToNat, Int.reduceAdd, Int.reduceSub, Int.reduceMul, he]
    exact hR _ hM02
  rw [decide_eq_true he, Bool.true_and] at hR
  subst he
  simp (maxSteps := 1000000) (disch := first | omega | (simp only [sizeAlloc, sizeDrew, sizeSet, sizePut] <;> omega) | fail) only [GS, TT_eq, TTl, Nat.reduceAdd, Nat.reduceMul, Nat.reduceSub, Nat.reduceDiv, Nat.reduceMod, Nat.reducePow, Nat.reduceEqDiff, ↓reduceIte, reduceCtorEq, Int.reduceToNat, Int.reduceAdd, Int.reduceSub, Int.reduceMul]
  refine ⟨fok45, sSame_cps s dt t (by unfold maxLen; omega) _ _ fun w3 hM3 => .inl ⟨_, rfl, hold_ops okT (rs := [.tmp 6]) rfl ?_⟩⟩
  simp (maxSteps := 1000000) (disch := first | omega | (simp only [sizeAlloc, sizeDrew, sizeSet, sizePut] <;> omega) | fail) only [GS, TT_eq, TTl, Nat.reduceAdd, Nat.reduceMul, Nat.reduceSub, Nat.reduceDiv, Nat.reduceMod, Nat.reducePow, Nat.reduceEqDiff, ↓reduceIte, reduceCtorEq, Int.reduceToNat, Int.reduceAdd, Int.reduceSub, Int.reduceMul]
  exact hR _ (hM02.trans hM3 (by simp))
end Go.Proofs.YthnlmmkhehphiaaGreatDoor
