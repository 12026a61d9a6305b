/-
  hmac: the tag of a text (walks).
-/
import Derived.Test.YtoladcdelaemoaaQeSha8
set_option linter.unusedSimpArgs false
set_option linter.unusedVariables false
set_option maxRecDepth 20000
namespace Go.Proofs.Ytoladcdelaemoaa
open Go Go.Wk Go.RowKit
attribute [local irreducible] go Hold
set_option maxHeartbeats 2000000 in
theorem over_cps (kt : List Int) (h : Nat) (p s : List UInt8) (hp : p.length = 64) (hs : s.length ≤ 1000000000000) (w : World) (hS : ShaAt w h (putF kt st0 wt0 0 p).1 (putF kt st0 wt0 0 p).2 64) (hB : WB (putF kt st0 wt0 0 p).2) (hK : KTab w kt) (R : Ending → World → Prop)
    (hR : ∀ w', Mod [] w w' → R (.returned (.string ⟨(shF kt (p ++ s)).toArray⟩)) w') : Calls Try.prog 146 #[.agg #[.pointer (some ⟨h, 0, none⟩)], .string ⟨s.toArray⟩] w R := by
  refine calls_go 4000 okT Try.func146 rfl (rs := [.tmp 4]) rfl Try.ntmps146 (args := [.agg #[.pointer (some ⟨h, 0, none⟩)], .string ⟨s.toArray⟩]) ?_
  simp (maxSteps := 1000000) (disch := first | omega | (simp only [sizeAlloc, sizeDrew, sizeSet, sizePut] <;> omega) | fail) only [GS, TT_eq, TTl, Nat.reduceAdd, Nat.reduceMul, Nat.reduceSub, Nat.reduceDiv, Nat.reduceMod, Nat.reducePow, Nat.reduceEqDiff, ↓reduceIte, reduceCtorEq, Int.reduceToNat, Int.reduceAdd, Int.reduceSub, Int.reduceMul]
  have hM1 := (Mod.refl [] w).alloc (.cells #[.pointer (some ⟨h, 0, none⟩)] 179)
  have hS1 := hS.mod0 hM1
  have hK1 := hK.mod hM1 (by simp)
  refine ⟨fok142, shaCopy_cps h _ _ _ _ hS1 _ fun c w2 hS2 hc hM2 => .inl ⟨_, rfl, hold_ops okT (rs := [.tmp 4]) rfl ?_⟩⟩
  simp (maxSteps := 1000000) (disch := first | omega | (simp only [sizeAlloc, sizeDrew, sizeSet, sizePut] <;> omega) | fail) only [GS, TT_eq, TTl, Nat.reduceAdd, Nat.reduceMul, Nat.reduceSub, Nat.reduceDiv, Nat.reduceMod, Nat.reducePow, Nat.reduceEqDiff, ↓reduceIte, reduceCtorEq, Int.reduceToNat, Int.reduceAdd, Int.reduceSub, Int.reduceMul]
  refine ⟨fok134, shaWrite_cps c _ _ kt 64 s hB (by omega) w2 hS2 (hK1.mod hM2 (by simp)) _ fun w3 hS3 hB3 hM3 => .inl ⟨_, rfl, hold_ops okT (rs := [.tmp 4]) rfl ?_⟩⟩
  have hM03 : Mod [] w w3 := (hM1.trans hM2 (by simp)).trans hM3 (by intro y hy; simp only [List.mem_singleton] at hy; subst hy; exact .inr (by have := hM1.size; omega))
  simp (maxSteps := 1000000) (disch := first | omega | (simp only [sizeAlloc, sizeDrew, sizeSet, sizePut] <;> omega) | fail) only [GS, TT_eq, TTl, Nat.reduceAdd, Nat.reduceMul, Nat.reduceSub, Nat.reduceDiv, Nat.reduceMod, Nat.reducePow, Nat.reduceEqDiff, ↓reduceIte, reduceCtorEq, Int.reduceToNat, Int.reduceAdd, Int.reduceSub, Int.reduceMul]
  refine ⟨fok135, shaSum_cps c _ _ kt (64 + s.length) hB3 (by omega) w3 hS3 (hK.mod hM03 (by simp)) _ fun w4 hM4 => .inl ⟨_, rfl, hold_ops okT (rs := [.tmp 4]) rfl ?_⟩⟩
  have e : sumF kt (putF kt (putF kt st0 wt0 0 p).1 (putF kt st0 wt0 0 p).2 64 s).1 (putF kt (putF kt st0 wt0 0 p).1 (putF kt st0 wt0 0 p).2 64 s).2 (64 + s.length) = shF kt (p ++ s) := by
    unfold shF
    rw [putF_app, List.length_append, hp, Nat.zero_add]
  rw [e]
  simp (maxSteps := 1000000) (disch := first | omega | (simp only [sizeAlloc, sizeDrew, sizeSet, sizePut] <;> omega) | fail) only [GS, TT_eq, TTl, Nat.reduceAdd, Nat.reduceMul, Nat.reduceSub, Nat.reduceDiv, Nat.reduceMod, Nat.reducePow, Nat.reduceEqDiff, ↓reduceIte, reduceCtorEq, Int.reduceToNat, Int.reduceAdd, Int.reduceSub, Int.reduceMul]
  exact hR _ (hM03.trans hM4 (by simp))
theorem putF_WB (kt : List Int) : ∀ (s : List UInt8) (st wt : List Int) (n : Nat), WB wt → WB (putF kt st wt n s).2
  | [], _, _, _, h => h
  | c :: s, st, wt, n, h => by rw [putF]; exact putF_WB kt s _ _ _ (h.set _ c)
theorem inF_len (kt : List Int) (key : List UInt8) (m : UInt8) : (inF kt key m).length = 64 := by unfold inF blkF; rw [List.length_map]; exact keyB_len _
theorem hmF_len (kt : List Int) (key s : List UInt8) : (hmF kt key s).length = 32 := shF_len kt _
set_option maxHeartbeats 4000000 in
theorem hkSum_cps (kt : List Int) (k : Nat) (key s : List UInt8) (hs : s.length ≤ 1000000000000) (w : World) (hH : HkAt w k kt key) (hK : KTab w kt) (R : Ending → World → Prop)
    (hR : ∀ w', Mod [] w w' → R (.returned (.string ⟨(hmF kt key s).toArray⟩)) w') : Calls Try.prog 137 #[.pointer (some ⟨k, 0, none⟩), .string ⟨s.toArray⟩] w R := by
  obtain ⟨hi, ho, h1, h2, h3⟩ := hH
  have c0 := cellOf (o := 0) h1
  have c1 := cellOf (o := 1) h1
  refine calls_go 4000 okT Try.func137 rfl (rs := [.tmp 4]) rfl Try.ntmps137 (args := [.pointer (some ⟨k, 0, none⟩), .string ⟨s.toArray⟩]) ?_
  simp (maxSteps := 1000000) (disch := first | omega | (simp only [sizeAlloc, sizeDrew, sizeSet, sizePut] <;> omega) | fail) only [GS, TT_eq, TTl, Nat.reduceAdd, Nat.reduceMul, Nat.reduceSub, Nat.reduceDiv, Nat.reduceMod, Nat.reducePow, Nat.reduceEqDiff, ↓reduceIte, reduceCtorEq, Int.reduceToNat, Int.reduceAdd, Int.reduceSub, Int.reduceMul]
  refine hold_draw okT (rs := [.tmp 4]) rfl [0, 1, 3, 7, 0, 16, 48, 112, 0, 496, 1023, 2047] [0, 1, 2, 3, 4, 5, 6, 7, 8, 9, 10, 11] (by kernel_rfl) (by kernel_rfl) ?_
  have hM1 := (Mod.refl [] w).drewN 1
  simp (maxSteps := 1000000) (disch := first | omega | (simp only [sizeAlloc, sizeDrew, sizeSet, sizePut] <;> omega) | fail) only [GS, TT_eq, TTl, Nat.reduceAdd, Nat.reduceMul, Nat.reduceSub, Nat.reduceDiv, Nat.reduceMod, Nat.reducePow, Nat.reduceEqDiff, ↓reduceIte, reduceCtorEq, Int.reduceToNat, Int.reduceAdd, Int.reduceSub, Int.reduceMul, c0, c1]
  refine ⟨fok146, over_cps kt hi (inF kt key 54) s (inF_len _ _ _) hs _ (h2.mod0 hM1) (putF_WB _ _ _ _ _ WB0) (hK.mod hM1 (by simp)) _ fun w2 hM2 => ?_⟩
  have hM02 := hM1.trans hM2 (by simp)
  have d1 := cellOf (o := 1) (hM02.get h1 (by simp))
  refine .inl ⟨_, rfl, by rw [d1]; rfl, hold_dops okT (rs := [.tmp 4]) rfl ?_⟩
  simp (maxSteps := 1000000) (disch := first | omega | (simp only [sizeAlloc, sizeDrew, sizeSet, sizePut] <;> omega) | fail) only [GS, TT_eq, TTl, Nat.reduceAdd, Nat.reduceMul, Nat.reduceSub, Nat.reduceDiv, Nat.reduceMod, Nat.reducePow, Nat.reduceEqDiff, ↓reduceIte, reduceCtorEq, Int.reduceToNat, Int.reduceAdd, Int.reduceSub, Int.reduceMul]
  refine ⟨fok146, over_cps kt ho (inF kt key 92) _ (inF_len _ _ _) (by rw [shF_len]; omega) _ (h3.mod0 hM02) (putF_WB _ _ _ _ _ WB0) (hK.mod hM02 (by simp)) _ fun w3 hM3 => .inl ⟨_, rfl, hold_dops okT (rs := [.tmp 4]) rfl ?_⟩⟩
  simp (maxSteps := 1000000) (disch := first | omega | (simp only [sizeAlloc, sizeDrew, sizeSet, sizePut] <;> omega) | fail) only [GS, TT_eq, TTl, Nat.reduceAdd, Nat.reduceMul, Nat.reduceSub, Nat.reduceDiv, Nat.reduceMod, Nat.reducePow, Nat.reduceEqDiff, ↓reduceIte, reduceCtorEq, Int.reduceToNat, Int.reduceAdd, Int.reduceSub, Int.reduceMul]
  exact hR _ (hM02.trans hM3 (by simp))
set_option maxHeartbeats 2000000 in
theorem hmSum_cps (kt : List Int) (key s : List UInt8) (hk : key.length ≤ 1152921504606846976) (hs : s.length ≤ 1000000000000) (w : World) (hK : KTab w kt) (R : Ending → World → Prop)
    (hR : ∀ w', Mod [] w w' → R (.returned (.string ⟨(hmF kt key s).toArray⟩)) w') : Calls Try.prog 129 #[.string ⟨key.toArray⟩, .string ⟨s.toArray⟩] w R := by
  refine calls_go 4000 okT Try.func129 rfl (rs := [.tmp 4]) rfl Try.ntmps129 (args := [.string ⟨key.toArray⟩, .string ⟨s.toArray⟩]) ?_
  simp (maxSteps := 1000000) (disch := first | omega | (simp only [sizeAlloc, sizeDrew, sizeSet, sizePut] <;> omega) | fail) only [GS, TT_eq, TTl, Nat.reduceAdd, Nat.reduceMul, Nat.reduceSub, Nat.reduceDiv, Nat.reduceMod, Nat.reducePow, Nat.reduceEqDiff, ↓reduceIte, reduceCtorEq, Int.reduceToNat, Int.reduceAdd, Int.reduceSub, Int.reduceMul]
  refine ⟨fok136, hmNew_cps kt key hk w hK _ fun k w1 hH hk1 hM1 => .inl ⟨_, rfl, hold_ops okT (rs := [.tmp 4]) rfl ?_⟩⟩
  simp (maxSteps := 1000000) (disch := first | omega | (simp only [sizeAlloc, sizeDrew, sizeSet, sizePut] <;> omega) | fail) only [GS, TT_eq, TTl, Nat.reduceAdd, Nat.reduceMul, Nat.reduceSub, Nat.reduceDiv, Nat.reduceMod, Nat.reducePow, Nat.reduceEqDiff, ↓reduceIte, reduceCtorEq, Int.reduceToNat, Int.reduceAdd, Int.reduceSub, Int.reduceMul]
  refine ⟨fok137, hkSum_cps kt k key s hs w1 hH (hK.mod hM1 (by simp)) _ fun w2 hM2 => .inl ⟨_, rfl, hold_ops okT (rs := [.tmp 4]) rfl ?_⟩⟩
  simp (maxSteps := 1000000) (disch := first | omega | (simp only [sizeAlloc, sizeDrew, sizeSet, sizePut] <;> omega) | fail) only [GS, TT_eq, TTl, Nat.reduceAdd, Nat.reduceMul, Nat.reduceSub, Nat.reduceDiv, Nat.reduceMod, Nat.reducePow, Nat.reduceEqDiff, ↓reduceIte, reduceCtorEq, Int.reduceToNat, Int.reduceAdd, Int.reduceSub, Int.reduceMul]
  exact hR _ (hM1.trans hM2 (by simp))
end Go.Proofs.Ytoladcdelaemoaa
