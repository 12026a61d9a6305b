/-
  hmac: a key that is ready, a tag (walks).
-/
import Derived.Test.YtoladcdelaemoaaQeSha7
set_option linter.unusedSimpArgs false
set_option linter.unusedVariables false
set_option maxRecDepth 20000
namespace Go.Proofs.Ytoladcdelaemoaa
open Go Go.Wk Go.RowKit
attribute [local irreducible] go Hold
/-- A tag's key as it is laid into the block. -/
def keyS (kt : List Int) (key : List UInt8) : List UInt8 := if 64 < key.length then shF kt key else key
def inF (kt : List Int) (key : List UInt8) (m : UInt8) : List UInt8 := blkF (keyS kt key) m
/-- The tag of a text. -/
def hmF (kt : List Int) (key s : List UInt8) : List UInt8 := shF kt (inF kt key 92 ++ shF kt (inF kt key 54 ++ s))
/-- A key that is ready, as it stands in memory. -/
def HkAt (w : World) (k : Nat) (kt : List Int) (key : List UInt8) : Prop := ∃ hi ho, w.heap[k]? = some (.cells #[.pointer (some ⟨hi, 0, none⟩), .pointer (some ⟨ho, 0, none⟩)] 182 (0, 0)) ∧
  ShaAt w hi (putF kt st0 wt0 0 (inF kt key 54)).1 (putF kt st0 wt0 0 (inF kt key 54)).2 64 ∧ ShaAt w ho (putF kt st0 wt0 0 (inF kt key 92)).1 (putF kt st0 wt0 0 (inF kt key 92)).2 64
theorem HkAt.mod0 {w w' : World} {k : Nat} {kt : List Int} {key : List UInt8} (h : HkAt w k kt key) (hM : Mod [] w w') : HkAt w' k kt key := by
  obtain ⟨hi, ho, a, b, c⟩ := h
  exact ⟨hi, ho, hM.get a (by simp), b.mod0 hM, c.mod0 hM⟩
set_option maxHeartbeats 2000000 in
theorem by_cps (m : UInt8) (w : World) (R : Ending → World → Prop) (hR : ∀ x w', w'.heap[x]? = some (.cells #[.int .u8 (m.toNat : Int)] 5 (0, 0)) → Mod [] w w' → R (.returned (.func (.func 144) #[] #[.pointer (some ⟨x, 0, none⟩)])) w') :
    Calls Try.prog 143 #[.int .u8 (m.toNat : Int)] w R := by
  refine calls_go 4000 okT Try.func143 rfl (rs := [.tmp 2]) rfl Try.ntmps143 (args := [.int .u8 (m.toNat : Int)]) ?_
  simp (maxSteps := 1000000) (disch := first | omega | (simp only [sizeAlloc, sizeDrew, sizeSet, sizePut] <;> omega) | fail) only [GS, TT_eq, TTl, Nat.reduceAdd, Nat.reduceMul, Nat.reduceSub, Nat.reduceDiv, Nat.reduceMod, Nat.reducePow, Nat.reduceEqDiff, ↓reduceIte, reduceCtorEq, Int.reduceToNat, Int.reduceAdd, Int.reduceSub, Int.reduceMul]
  exact hR _ _ heapNew ((Mod.refl [] w).alloc _)
set_option maxHeartbeats 4000000 in
theorem hmNew_cps (kt : List Int) (key : List UInt8) (hk : key.length ≤ 1152921504606846976) (w : World) (hK : KTab w kt) (R : Ending → World → Prop) (hR : ∀ k w', HkAt w' k kt key → w.heap.size ≤ k → Mod [] w w' → R (.returned (.pointer (some ⟨k, 0, none⟩))) w') :
    Calls Try.prog 136 #[.string ⟨key.toArray⟩] w R := by
  refine calls_go 4000 okT Try.func136 rfl (rs := [.tmp 2]) rfl Try.ntmps136 (args := [.string ⟨key.toArray⟩]) ?_
  simp (maxSteps := 1000000) (disch := first | omega | (simp only [sizeAlloc, sizeDrew, sizeSet, sizePut] <;> omega) | fail) only [GS, TT_eq, TTl, Nat.reduceAdd, Nat.reduceMul, Nat.reduceSub, Nat.reduceDiv, Nat.reduceMod, Nat.reducePow, Nat.reduceEqDiff, ↓reduceIte, reduceCtorEq, Int.reduceToNat, Int.reduceAdd, Int.reduceSub, Int.reduceMul]
  have hks : (keyS kt key).length ≤ 64 := by
    unfold keyS
    split
    · rw [shF_len]; omega
    · omega
  by_cases h64 : 64 < key.length
  · have ek : keyS kt key = shF kt key := if_pos h64
    unfold HkAt inF at hR
    simp (maxSteps := 1000000) (disch := first | omega | (simp only [sizeAlloc, sizeDrew, sizeSet, sizePut] <;> omega) | fail) only [GS, TT_eq, TTl, Nat.reduceAdd, Nat.reduceMul, Nat.reduceSub, Nat.reduceDiv, Nat.reduceMod, Nat.reducePow, Nat.reduceEqDiff, ↓reduceIte, reduceCtorEq, Int.reduceToNat, Int.reduceAdd, Int.reduceSub, Int.reduceMul]
    refine ⟨fok128, shaText_cps kt key hk w hK _ fun w1 hM1 => .inl ⟨_, rfl, hold_ops okT (rs := [.tmp 2]) rfl ?_⟩⟩
    have hK1 := hK.mod hM1 (by simp)
    rw [← ek]
    generalize keyS kt key = ks at *
    simp (maxSteps := 1000000) (disch := first | omega | (simp only [sizeAlloc, sizeDrew, sizeSet, sizePut] <;> omega) | fail) only [GS, TT_eq, TTl, Nat.reduceAdd, Nat.reduceMul, Nat.reduceSub, Nat.reduceDiv, Nat.reduceMod, Nat.reducePow, Nat.reduceEqDiff, ↓reduceIte, reduceCtorEq, Int.reduceToNat, Int.reduceAdd, Int.reduceSub, Int.reduceMul]
    refine ⟨fok143, by_cps 54 w1 _ fun x1 w2 hx1 hM2 => .inl ⟨_, rfl, hold_ops okT (rs := [.tmp 2]) rfl ?_⟩⟩
    simp (maxSteps := 1000000) (disch := first | omega | (simp only [sizeAlloc, sizeDrew, sizeSet, sizePut] <;> omega) | fail) only [GS, TT_eq, TTl, Nat.reduceAdd, Nat.reduceMul, Nat.reduceSub, Nat.reduceDiv, Nat.reduceMod, Nat.reducePow, Nat.reduceEqDiff, ↓reduceIte, reduceCtorEq, Int.reduceToNat, Int.reduceAdd, Int.reduceSub, Int.reduceMul]
    refine ⟨fok145, with_cps kt ks hks x1 54 w2 hx1 (hK1.mod hM2 (by simp)) _ fun h1 w3 hS3 hh1 hM3 => .inl ⟨_, rfl, hold_ops okT (rs := [.tmp 2]) rfl ?_⟩⟩
    have hM13 := hM2.trans hM3 (by simp)
    simp (maxSteps := 1000000) (disch := first | omega | (simp only [sizeAlloc, sizeDrew, sizeSet, sizePut] <;> omega) | fail) only [GS, TT_eq, TTl, Nat.reduceAdd, Nat.reduceMul, Nat.reduceSub, Nat.reduceDiv, Nat.reduceMod, Nat.reducePow, Nat.reduceEqDiff, ↓reduceIte, reduceCtorEq, Int.reduceToNat, Int.reduceAdd, Int.reduceSub, Int.reduceMul]
    refine ⟨fok143, by_cps 92 w3 _ fun x2 w4 hx2 hM4 => .inl ⟨_, rfl, hold_ops okT (rs := [.tmp 2]) rfl ?_⟩⟩
    simp (maxSteps := 1000000) (disch := first | omega | (simp only [sizeAlloc, sizeDrew, sizeSet, sizePut] <;> omega) | fail) only [GS, TT_eq, TTl, Nat.reduceAdd, Nat.reduceMul, Nat.reduceSub, Nat.reduceDiv, Nat.reduceMod, Nat.reducePow, Nat.reduceEqDiff, ↓reduceIte, reduceCtorEq, Int.reduceToNat, Int.reduceAdd, Int.reduceSub, Int.reduceMul]
    have hM14 := hM13.trans hM4 (by simp)
    refine ⟨fok145, with_cps kt ks hks x2 92 w4 hx2 (hK1.mod hM14 (by simp)) _ fun h2 w5 hS5 hh2 hM5 => .inl ⟨_, rfl, hold_ops okT (rs := [.tmp 2]) rfl ?_⟩⟩
    have hM15 := hM14.trans hM5 (by simp)
    have hS35 := (hS3.mod0 hM4).mod0 hM5
    simp (maxSteps := 1000000) (disch := first | omega | (simp only [sizeAlloc, sizeDrew, sizeSet, sizePut] <;> omega) | fail) only [GS, TT_eq, TTl, Nat.reduceAdd, Nat.reduceMul, Nat.reduceSub, Nat.reduceDiv, Nat.reduceMod, Nat.reducePow, Nat.reduceEqDiff, ↓reduceIte, reduceCtorEq, Int.reduceToNat, Int.reduceAdd, Int.reduceSub, Int.reduceMul]
    have hMz := (Mod.refl [] w5).alloc (.cells #[.pointer (some ⟨h1, 0, none⟩), .pointer (some ⟨h2, 0, none⟩)] 182)
    have hM0z := hM1.trans (hM15.trans hMz (by simp)) (by simp)
    exact hR _ _ ⟨h1, h2, heapNew, hS35.mod0 hMz, hS5.mod0 hMz⟩ (hM1.trans hM15 (by simp)).size hM0z
  · have ek : keyS kt key = key := if_neg h64
    unfold HkAt inF at hR
    have hK1 := hK
    have hM1 := Mod.refl [] w
    rw [ek] at hks hR
    generalize key = ks at *
    simp (maxSteps := 1000000) (disch := first | omega | (simp only [sizeAlloc, sizeDrew, sizeSet, sizePut] <;> omega) | fail) only [GS, TT_eq, TTl, Nat.reduceAdd, Nat.reduceMul, Nat.reduceSub, Nat.reduceDiv, Nat.reduceMod, Nat.reducePow, Nat.reduceEqDiff, ↓reduceIte, reduceCtorEq, Int.reduceToNat, Int.reduceAdd, Int.reduceSub, Int.reduceMul]
    refine ⟨fok143, by_cps 54 w _ fun x1 w2 hx1 hM2 => .inl ⟨_, rfl, hold_ops okT (rs := [.tmp 2]) rfl ?_⟩⟩
    simp (maxSteps := 1000000) (disch := first | omega | (simp only [sizeAlloc, sizeDrew, sizeSet, sizePut] <;> omega) | fail) only [GS, TT_eq, TTl, Nat.reduceAdd, Nat.reduceMul, Nat.reduceSub, Nat.reduceDiv, Nat.reduceMod, Nat.reducePow, Nat.reduceEqDiff, ↓reduceIte, reduceCtorEq, Int.reduceToNat, Int.reduceAdd, Int.reduceSub, Int.reduceMul]
    refine ⟨fok145, with_cps kt ks hks x1 54 w2 hx1 (hK1.mod hM2 (by simp)) _ fun h1 w3 hS3 hh1 hM3 => .inl ⟨_, rfl, hold_ops okT (rs := [.tmp 2]) rfl ?_⟩⟩
    have hM13 := hM2.trans hM3 (by simp)
    simp (maxSteps := 1000000) (disch := first | omega | (simp only [sizeAlloc, sizeDrew, sizeSet, sizePut] <;> omega) | fail) only [GS, TT_eq, TTl, Nat.reduceAdd, Nat.reduceMul, Nat.reduceSub, Nat.reduceDiv, Nat.reduceMod, Nat.reducePow, Nat.reduceEqDiff, ↓reduceIte, reduceCtorEq, Int.reduceToNat, Int.reduceAdd, Int.reduceSub, Int.reduceMul]
    refine ⟨fok143, by_cps 92 w3 _ fun x2 w4 hx2 hM4 => .inl ⟨_, rfl, hold_ops okT (rs := [.tmp 2]) rfl ?_⟩⟩
    simp (maxSteps := 1000000) (disch := first | omega | (simp only [sizeAlloc, sizeDrew, sizeSet, sizePut] <;> omega) | fail) only [GS, TT_eq, TTl, Nat.reduceAdd, Nat.reduceMul, Nat.reduceSub, Nat.reduceDiv, Nat.reduceMod, Nat.reducePow, Nat.reduceEqDiff, ↓reduceIte, reduceCtorEq, Int.reduceToNat, Int.reduceAdd, Int.reduceSub, Int.reduceMul]
    have hM14 := hM13.trans hM4 (by simp)
    refine ⟨fok145, with_cps kt ks hks x2 92 w4 hx2 (hK1.mod hM14 (by simp)) _ fun h2 w5 hS5 hh2 hM5 => .inl ⟨_, rfl, hold_ops okT (rs := [.tmp 2]) rfl ?_⟩⟩
    have hM15 := hM14.trans hM5 (by simp)
    have hS35 := (hS3.mod0 hM4).mod0 hM5
    simp (maxSteps := 1000000) (disch := first | omega | (simp only [sizeAlloc, sizeDrew, sizeSet, sizePut] <;> omega) | fail) only [GS, TT_eq, TTl, Nat.reduceAdd, Nat.reduceMul, Nat.reduceSub, Nat.reduceDiv, Nat.reduceMod, Nat.reducePow, Nat.reduceEqDiff, ↓reduceIte, reduceCtorEq, Int.reduceToNat, Int.reduceAdd, Int.reduceSub, Int.reduceMul]
    have hMz := (Mod.refl [] w5).alloc (.cells #[.pointer (some ⟨h1, 0, none⟩), .pointer (some ⟨h2, 0, none⟩)] 182)
    have hM0z := hM1.trans (hM15.trans hMz (by simp)) (by simp)
    exact hR _ _ ⟨h1, h2, heapNew, hS35.mod0 hMz, hS5.mod0 hMz⟩ (hM1.trans hM15 (by simp)).size hM0z
end Go.Proofs.Ytoladcdelaemoaa
