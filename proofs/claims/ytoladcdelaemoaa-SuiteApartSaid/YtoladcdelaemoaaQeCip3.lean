/-
  cipher: Seal, Open (walks).
-/
import Derived.Test.YtoladcdelaemoaaQeCip2
import Derived.Test.YtoladcdelaemoaaQeSui2
set_option linter.unusedSimpArgs false
set_option linter.unusedVariables false
set_option maxRecDepth 20000
namespace Go.Proofs.Ytoladcdelaemoaa
open Go Go.Wk Go.RowKit
attribute [local irreducible] go Hold
open Go.Lib
def turnC (kt : List Int) (key nonce s : List UInt8) : List UInt8 := trnF (strm kt (hmF kt key strW) nonce) 0 s
def tagC (kt : List Int) (key x : List UInt8) : List UInt8 := hmF kt (hmF kt key tagW) x
def sealC (kt : List Int) (key nonce s : List UInt8) : List UInt8 × Int :=
  if nonce.length = 12 then (if 65536 < s.length then ([], 5) else ((nonce ++ turnC kt key nonce s) ++ tagC kt key (nonce ++ turnC kt key nonce s), 0)) else ([], 2)
def openC (kt : List Int) (key x : List UInt8) : List UInt8 × Int :=
  if x.length < 44 then ([], 6) else if 65580 < x.length then ([], 5) else if tagC kt key (x.take (x.length - 32)) = x.drop (x.length - 32) then (turnC kt key (x.take 12) ((x.take (x.length - 32)).drop 12), 0) else ([], 40)
theorem box2c {w W : World} {t : Nat} {a0 a1 x0 x1 : Value} (h : ((w.alloc (.cells #[a0, a1] t)).setCell ⟨w.heap.size, 0, none⟩ x0).setCell ⟨w.heap.size, 1, none⟩ x1 = W) : W.heap[w.heap.size]? = some (.cells #[x0, x1] t (0, 0)) ∧ Mod [] w W :=
  have q := st2c heapNew h
  ⟨q.1, ((Mod.refl [] w).alloc _).trans q.2 (fun x hx => .inr (by simp only [List.mem_singleton] at hx; omega))⟩
set_option maxRecDepth 20000 in
set_option maxHeartbeats 4000000 in
theorem cSeal_cps (kt : List Int) (key nonce s : List UInt8) (hk : key.length ≤ 1000000) (hn : nonce.length ≤ 1000000) (hs : s.length ≤ 1000000) (w : World) (hK : KTab w kt) (R : Ending → World → Prop)
    (hR : ∀ w', Mod [] w w' → R (.returned (stV (sealC kt key nonce s))) w') :
    Calls Try.prog 132 #[.string ⟨key.toArray⟩, .string ⟨nonce.toArray⟩, .string ⟨s.toArray⟩] w R := by
  unfold sealC at hR
  refine calls_go 4000 okT Try.func132 rfl (rs := [.tmp 6, .tmp 7]) rfl Try.ntmps132 (args := [.string ⟨key.toArray⟩, .string ⟨nonce.toArray⟩, .string ⟨s.toArray⟩]) ?_
  simp (maxSteps := 1000000) (disch := first | omega | (simp only [sizeAlloc, sizeDrew, sizeSet, sizePut] <;> omega) | fail) only [GS, TT_eq, TTl, Nat.reduceAdd, Nat.reduceMul, Nat.reduceSub, Nat.reduceDiv, Nat.reduceMod, Nat.reducePow, Nat.reduceEqDiff, ↓reduceIte, reduceCtorEq, Int.reduceToNat, Int.reduceAdd, Int.reduceSub, Int.reduceMul]
  by_cases h12 : nonce.length = 12
  rotate_left
  · rw [if_neg h12] at hR
    unfold stV at hR
    simp (maxSteps := 1000000) (disch := first | omega | (simp only [sizeAlloc, sizeDrew, sizeSet, sizePut] <;> omega) | fail) only [GS, TT_eq, TTl, Nat.reduceAdd, Nat.reduceMul, Nat.reduceSub, Nat.reduceDiv, Nat.reduceMod, Nat.reducePow, Nat.reduceEqDiff, ↓reduceIte, reduceCtorEq, Int.reduceToNat, Int.reduceAdd, Int.reduceSub, Int.reduceMul]
    exact hR _ (Mod.refl _ _)
  rw [if_pos h12] at hR
  by_cases hl : 65536 < s.length
  · rw [if_pos hl] at hR
    unfold stV at hR
    simp (maxSteps := 1000000) (disch := first | omega | (simp only [sizeAlloc, sizeDrew, sizeSet, sizePut] <;> omega) | fail) only [GS, TT_eq, TTl, Nat.reduceAdd, Nat.reduceMul, Nat.reduceSub, Nat.reduceDiv, Nat.reduceMod, Nat.reducePow, Nat.reduceEqDiff, ↓reduceIte, reduceCtorEq, Int.reduceToNat, Int.reduceAdd, Int.reduceSub, Int.reduceMul, h12]
    exact hR _ (Mod.refl _ _)
  rw [if_neg hl] at hR
  unfold stV at hR
  simp (maxSteps := 1000000) (disch := first | omega | (simp only [sizeAlloc, sizeDrew, sizeSet, sizePut] <;> omega) | fail) only [GS, TT_eq, TTl, Nat.reduceAdd, Nat.reduceMul, Nat.reduceSub, Nat.reduceDiv, Nat.reduceMod, Nat.reducePow, Nat.reduceEqDiff, ↓reduceIte, reduceCtorEq, Int.reduceToNat, Int.reduceAdd, Int.reduceSub, Int.reduceMul, h12]
  refine ⟨fok138, cOf_cps kt key (by omega) w hK _ fun a b w1 hA1 hB1 hM1 => .inl ⟨_, rfl, hold_ops okT (rs := [.tmp 6, .tmp 7]) rfl ?_⟩⟩
  have hK1 := hK.mod hM1 (by simp)
  simp (maxSteps := 1000000) (disch := first | omega | (simp only [sizeAlloc, sizeDrew, sizeSet, sizePut] <;> omega) | fail) only [GS, TT_eq, TTl, Nat.reduceAdd, Nat.reduceMul, Nat.reduceSub, Nat.reduceDiv, Nat.reduceMod, Nat.reducePow, Nat.reduceEqDiff, ↓reduceIte, reduceCtorEq, Int.reduceToNat, Int.reduceAdd, Int.reduceSub, Int.reduceMul]
  generalize hW : ((w1.alloc _).setCell _ _).setCell _ _ = w2
  obtain ⟨hP2, hM12⟩ := box2c hW
  clear hW
  have hM2 := hM1.trans hM12 (by simp)
  refine ⟨fok140, cTurned_cps kt a b _ nonce s hn hs w2 (hA1.mod0 hM12) (hK.mod hM2 (by simp)) _ fun w3 hM3 => .inl ⟨_, rfl, hold_ops okT (rs := [.tmp 6, .tmp 7]) rfl ?_⟩⟩
  have hM03 := hM2.trans hM3 (by simp)
  have hP3 := hM3.get hP2 (by simp)
  have c31 := cellOf (o := 1) hP3
  rw [show trnF (strm kt (hmF kt key strW) nonce) 0 s = turnC kt key nonce s from rfl]
  have hul : (turnC kt key nonce s).length = s.length := trnF_len _ _ _
  generalize turnC kt key nonce s = u at *
  have hal : (nonce ++ u).length = 12 + u.length := by rw [List.length_append, h12]
  simp (maxSteps := 1000000) (disch := first | omega | (simp only [sizeAlloc, sizeDrew, sizeSet, sizePut] <;> omega) | fail) only [GS, TT_eq, TTl, Nat.reduceAdd, Nat.reduceMul, Nat.reduceSub, Nat.reduceDiv, Nat.reduceMod, Nat.reducePow, Nat.reduceEqDiff, ↓reduceIte, reduceCtorEq, Int.reduceToNat, Int.reduceAdd, Int.reduceSub, Int.reduceMul, c31, h12]
  refine ⟨fok137, hkSum_cps kt b _ (nonce ++ u) (by omega) w3 ((hB1.mod0 hM12).mod0 hM3) (hK.mod hM03 (by simp)) _ fun w4 hM4 => .inl ⟨_, rfl, hold_ops okT (rs := [.tmp 6, .tmp 7]) rfl ?_⟩⟩
  rw [show hmF kt (hmF kt key tagW) (nonce ++ u) = tagC kt key (nonce ++ u) from rfl]
  have htl : (tagC kt key (nonce ++ u)).length = 32 := hmF_len _ _ _
  generalize tagC kt key (nonce ++ u) = tg at *
  simp (maxSteps := 1000000) (disch := first | omega | (simp only [sizeAlloc, sizeDrew, sizeSet, sizePut] <;> omega) | fail) only [GS, TT_eq, TTl, Nat.reduceAdd, Nat.reduceMul, Nat.reduceSub, Nat.reduceDiv, Nat.reduceMod, Nat.reducePow, Nat.reduceEqDiff, ↓reduceIte, reduceCtorEq, Int.reduceToNat, Int.reduceAdd, Int.reduceSub, Int.reduceMul, hal, htl, List.length_append]
  exact hR _ (hM03.trans hM4 (by simp))
set_option maxRecDepth 20000 in
set_option maxHeartbeats 4000000 in
theorem cOpen_cps (kt : List Int) (key x : List UInt8) (hk : key.length ≤ 1000000) (hx : x.length ≤ 1000000) (w : World) (hK : KTab w kt) (R : Ending → World → Prop)
    (hR : ∀ w', Mod [] w w' → R (.returned (stV (openC kt key x))) w') :
    Calls Try.prog 131 #[.string ⟨key.toArray⟩, .string ⟨x.toArray⟩] w R := by
  unfold openC at hR
  refine calls_go 4000 okT Try.func131 rfl (rs := [.tmp 4, .tmp 5]) rfl Try.ntmps131 (args := [.string ⟨key.toArray⟩, .string ⟨x.toArray⟩]) ?_
  by_cases h1 : x.length < 44
  · rw [if_pos h1] at hR
    unfold stV at hR
    simp (maxSteps := 1000000) (disch := first | omega | (simp only [sizeAlloc, sizeDrew, sizeSet, sizePut] <;> omega) | fail) only [GS, TT_eq, TTl, Nat.reduceAdd, Nat.reduceMul, Nat.reduceSub, Nat.reduceDiv, Nat.reduceMod, Nat.reducePow, Nat.reduceEqDiff, ↓reduceIte, reduceCtorEq, Int.reduceToNat, Int.reduceAdd, Int.reduceSub, Int.reduceMul]
    exact hR _ (Mod.refl _ _)
  rw [if_neg h1] at hR
  by_cases h2 : 65580 < x.length
  · rw [if_pos h2] at hR
    unfold stV at hR
    simp (maxSteps := 1000000) (disch := first | omega | (simp only [sizeAlloc, sizeDrew, sizeSet, sizePut] <;> omega) | fail) only [GS, TT_eq, TTl, Nat.reduceAdd, Nat.reduceMul, Nat.reduceSub, Nat.reduceDiv, Nat.reduceMod, Nat.reducePow, Nat.reduceEqDiff, ↓reduceIte, reduceCtorEq, Int.reduceToNat, Int.reduceAdd, Int.reduceSub, Int.reduceMul]
    exact hR _ (Mod.refl _ _)
  rw [if_neg h2] at hR
  simp (maxSteps := 1000000) (disch := first | omega | (simp only [sizeAlloc, sizeDrew, sizeSet, sizePut] <;> omega) | fail) only [GS, TT_eq, TTl, Nat.reduceAdd, Nat.reduceMul, Nat.reduceSub, Nat.reduceDiv, Nat.reduceMod, Nat.reducePow, Nat.reduceEqDiff, ↓reduceIte, reduceCtorEq, Int.reduceToNat, Int.reduceAdd, Int.reduceSub, Int.reduceMul]
  refine ⟨fok138, cOf_cps kt key (by omega) w hK _ fun a b w1 hA1 hB1 hM1 => .inl ⟨_, rfl, hold_ops okT (rs := [.tmp 4, .tmp 5]) rfl ?_⟩⟩
  have hK1 := hK.mod hM1 (by simp)
  simp (maxSteps := 1000000) (disch := first | omega | (simp only [sizeAlloc, sizeDrew, sizeSet, sizePut] <;> omega) | fail) only [GS, TT_eq, TTl, Nat.reduceAdd, Nat.reduceMul, Nat.reduceSub, Nat.reduceDiv, Nat.reduceMod, Nat.reducePow, Nat.reduceEqDiff, ↓reduceIte, reduceCtorEq, Int.reduceToNat, Int.reduceAdd, Int.reduceSub, Int.reduceMul]
  generalize hW : ((w1.alloc _).setCell _ _).setCell _ _ = w2
  obtain ⟨hP2, hM12⟩ := box2c hW
  clear hW
  obtain ⟨n, hn⟩ : ∃ n, x.length = n + 32 := ⟨x.length - 32, by omega⟩
  have en : ((x.length : Nat) : Int) - 32 = (n : Int) := by omega
  have en2 : x.length - 32 = n := by omega
  rw [en]
  rw [en2] at hR
  have hM2 := hM1.trans hM12 (by simp)
  have hA2 := hA1.mod0 hM12
  have hB2 := hB1.mod0 hM12
  refine hold_draw okT (rs := [.tmp 4, .tmp 5]) rfl [0, 1, 0, 0, 12, 31, 0, 0, 192, 511, 1023] [0, 1, 2, 3, 4, 6, 7, 8, 5, 9, 10] (by kernel_rfl) (by kernel_rfl) ?_
  have hD := Mod.drewN 1 (Mod.refl [] w2)
  replace hM2 := hM2.trans hD (by simp)
  replace hA2 := hA2.mod0 hD
  replace hB2 := hB2.mod0 hD
  replace hP2 := hD.get hP2 (by simp)
  generalize w2.drewN 1 = w3 at *
  have c20 := cellOf (o := 0) hP2
  have c21 := cellOf (o := 1) hP2
  simp (maxSteps := 1000000) (disch := first | omega | (simp only [sizeAlloc, sizeDrew, sizeSet, sizePut] <;> omega) | fail) only [GS, TT_eq, TTl, Nat.reduceAdd, Nat.reduceMul, Nat.reduceSub, Nat.reduceDiv, Nat.reduceMod, Nat.reducePow, Nat.reduceEqDiff, ↓reduceIte, reduceCtorEq, Int.reduceToNat, Int.reduceAdd, Int.reduceSub, Int.reduceMul, c20, c21]
  have hlt : (x.take n).length = n := by rw [List.length_take]; omega
  refine ⟨fok137, hkSum_cps kt b _ (x.take n) (by omega) w3 hB2 (hK.mod hM2 (by simp)) _ fun w4 hM4 => ?_⟩
  rw [show hmF kt (hmF kt key tagW) (x.take n) = tagC kt key (x.take n) from rfl]
  have htl : (tagC kt key (x.take n)).length = 32 := hmF_len _ _ _
  have hM24 := hM2.trans hM4 (by simp)
  have hP4 := hM4.get hP2 (by simp)
  generalize hTG : tagC kt key (x.take n) = tg at *
  refine .inl ⟨_, rfl, hold_dops okT (rs := [.tmp 4, .tmp 5]) rfl ?_⟩
  simp (maxSteps := 1000000) (disch := first | omega | (simp only [sizeAlloc, sizeDrew, sizeSet, sizePut] <;> omega) | fail) only [GS, TT_eq, TTl, Nat.reduceAdd, Nat.reduceMul, Nat.reduceSub, Nat.reduceDiv, Nat.reduceMod, Nat.reducePow, Nat.reduceEqDiff, ↓reduceIte, reduceCtorEq, Int.reduceToNat, Int.reduceAdd, Int.reduceSub, Int.reduceMul]
  have hdl : (x.drop n).length = 32 := by rw [List.length_drop]; omega
  refine ⟨fok139, hSame_cps tg (x.drop n) (by unfold maxLen; omega) w4 _ fun w5 hM5 => .inl ⟨_, rfl, hold_dops okT (rs := [.tmp 4, .tmp 5]) rfl ?_⟩⟩
  have hM25 := hM24.trans hM5 (by simp)
  have hP5 := hM5.get hP4 (by simp)
  by_cases hsame : tg = x.drop n
  rotate_left
  · rw [if_neg hsame] at hR
    rw [decide_eq_false hsame]
    unfold stV at hR
    simp (maxSteps := 1000000) (disch := first | omega | (simp only [sizeAlloc, sizeDrew, sizeSet, sizePut] <;> omega) | fail) only [GS, TT_eq, TTl, Nat.reduceAdd, Nat.reduceMul, Nat.reduceSub, Nat.reduceDiv, Nat.reduceMod, Nat.reducePow, Nat.reduceEqDiff, ↓reduceIte, reduceCtorEq, Int.reduceToNat, Int.reduceAdd, Int.reduceSub, Int.reduceMul]
    exact hR _ hM25
  rw [if_pos hsame] at hR
  rw [decide_eq_true hsame]
  unfold stV at hR
  have hA5 := (hA2.mod0 hM4).mod0 hM5
  simp (maxSteps := 1000000) (disch := first | omega | (simp only [sizeAlloc, sizeDrew, sizeSet, sizePut] <;> omega) | fail) only [GS, TT_eq, TTl, Nat.reduceAdd, Nat.reduceMul, Nat.reduceSub, Nat.reduceDiv, Nat.reduceMod, Nat.reducePow, Nat.reduceEqDiff, ↓reduceIte, reduceCtorEq, Int.reduceToNat, Int.reduceAdd, Int.reduceSub, Int.reduceMul]
  refine hold_draw okT (rs := [.tmp 4, .tmp 5]) rfl [0, 0, 2, 0, 0, 24, 63, 127, 255] [0, 1, 2, 3, 4, 5, 6, 7, 8] (by kernel_rfl) (by kernel_rfl) ?_
  have hD := Mod.drewN 1 (Mod.refl [] w5)
  replace hM25 := hM25.trans hD (by simp)
  replace hA5 := hA5.mod0 hD
  replace hP5 := hD.get hP5 (by simp)
  generalize w5.drewN 1 = w6 at *
  have c60 := cellOf (o := 0) hP5
  have c61 := cellOf (o := 1) hP5
  have hs1 : (x.take 12).length = 12 := by rw [List.length_take]; omega
  have hs2 : ((x.take n).drop 12).length = n - 12 := by rw [List.length_drop, hlt]
  simp (maxSteps := 1000000) (disch := first | omega | (simp only [sizeAlloc, sizeDrew, sizeSet, sizePut] <;> omega) | fail) only [GS, TT_eq, TTl, Nat.reduceAdd, Nat.reduceMul, Nat.reduceSub, Nat.reduceDiv, Nat.reduceMod, Nat.reducePow, Nat.reduceEqDiff, ↓reduceIte, reduceCtorEq, Int.reduceToNat, Int.reduceAdd, Int.reduceSub, Int.reduceMul, c60, c61]
  refine ⟨fok140, cTurned_cps kt a b _ (x.take 12) ((x.take n).drop 12) (by omega) (by omega) w6 hA5 (hK.mod hM25 (by simp)) _ fun w7 hM7 => .inl ⟨_, rfl, hold_dops okT (rs := [.tmp 4, .tmp 5]) rfl ?_⟩⟩
  rw [show trnF (strm kt (hmF kt key strW) (x.take 12)) 0 ((x.take n).drop 12) = turnC kt key (x.take 12) ((x.take n).drop 12) from rfl]
  simp (maxSteps := 1000000) (disch := first | omega | (simp only [sizeAlloc, sizeDrew, sizeSet, sizePut] <;> omega) | fail) only [GS, TT_eq, TTl, Nat.reduceAdd, Nat.reduceMul, Nat.reduceSub, Nat.reduceDiv, Nat.reduceMod, Nat.reducePow, Nat.reduceEqDiff, ↓reduceIte, reduceCtorEq, Int.reduceToNat, Int.reduceAdd, Int.reduceSub, Int.reduceMul]
  exact hR _ (hM25.trans hM7 (by simp))
end Go.Proofs.Ytoladcdelaemoaa
