/-
  chirographref20: epoch, MayHead, May, parts, Head, Encode, number (walks).
-/
import Derived.Test.YthnlmmkhehphiaaGreatDoorEtEnv5
import Derived.Test.YthnlmmkhehphiaaGreatDoorEtRefB
import Derived.Test.YthnlmmkhehphiaaGreatDoorEtRefA
import Derived.Test.YthnlmmkhehphiaaGreatDoorEtBal4
set_option linter.unusedSimpArgs false
set_option linter.unusedVariables false
set_option maxRecDepth 20000
namespace Go.Proofs.YthnlmmkhehphiaaGreatDoor
open Go Go.Wk Go.RowKit
attribute [local irreducible] go Hold
open Go.Lib
theorem mayH_iff {x : Ev} : mayH x = true ↔ (0 ≤ x.f ∧ x.f ≤ 7) ∧ (0 ≤ x.t ∧ x.t ≤ 7) ∧ (1 ≤ x.fe ∧ x.fe ≤ 255) ∧ (1 ≤ x.te ∧ x.te ≤ 255) ∧ (1 ≤ x.no ∧ x.no ≤ 65535) ∧ x.f ≠ x.t ∧ checkS x.body = 0 := by
  constructor
  · intro h
    obtain ⟨ha, h1, h2⟩ := mayH_is h
    have h := allN_is ha
    have a0 := h 0 (by omega)
    have a1 := h 1 (by omega)
    have a2 := h 2 (by omega)
    have a3 := h 3 (by omega)
    have a4 := h 4 (by omega)
    simp only [inN, evN, loN, hiN, List.getD_cons_zero, List.getD_cons_succ] at a0 a1 a2 a3 a4
    exact ⟨a0, a1, a2, a3, a4, h1, h2⟩
  · rintro ⟨a0, a1, a2, a3, a4, h1, h2⟩
    have ha : allN x = true := allN_of fun j hj => by
      have hj5 : j = 0 ∨ j = 1 ∨ j = 2 ∨ j = 3 ∨ j = 4 := by omega
      rcases hj5 with rfl | rfl | rfl | rfl | rfl <;> (simp only [inN, evN, loN, hiN, List.getD_cons_zero, List.getD_cons_succ]; assumption)
    unfold mayH
    rw [ha, decide_eq_true h1, decide_eq_true h2]
    rfl
def epB (k : Int) : Bool := decide (1 ≤ k ∧ k ≤ 255)
theorem rEpoch_cps (k : Int) (w : World) (R : Ending → World → Prop) (hR : R (.returned (.bool (epB k))) w) : Calls Tryz.prog 99 #[.int .i64 k] w R := by
  unfold epB at hR
  refine calls_go 4000 okT Tryz.func99 rfl (rs := [.tmp 2]) rfl Tryz.ntmps99 (args := [.int .i64 k]) ?_
  by_cases h1 : 1 ≤ k
  · by_cases h2 : k ≤ 255
    · rw [decide_eq_true ⟨h1, h2⟩] at hR
      simp (maxSteps := 1000000) (disch := first | omega | (simp only [sizeAlloc, sizeDrew, sizeSet, sizePut] <;> omega) | fail) only [GS, TT_eq, TTl, Nat.reduceAdd, Nat.reduceMul, Nat.reduceSub, Nat.reduceDiv, Nat.reduceMod, Nat.reducePow, Nat.reduceEqDiff, ↓reduceIte, reduceCtorEq, Int.reduceToNat, Int.reduceAdd, Int.reduceSub, Int.reduceMul]
      exact hR
    · rw [decide_eq_false (by omega)] at hR
      simp (maxSteps := 1000000) (disch := first | omega | (simp only [sizeAlloc, sizeDrew, sizeSet, sizePut] <;> omega) | fail) only [GS, TT_eq, TTl, Nat.reduceAdd, Nat.reduceMul, Nat.reduceSub, Nat.reduceDiv, Nat.reduceMod, Nat.reducePow, Nat.reduceEqDiff, ↓reduceIte, reduceCtorEq, Int.reduceToNat, Int.reduceAdd, Int.reduceSub, Int.reduceMul]
      exact hR
  · rw [decide_eq_false (by omega)] at hR
    simp (maxSteps := 1000000) (disch := first | omega | (simp only [sizeAlloc, sizeDrew, sizeSet, sizePut] <;> omega) | fail) only [GS, TT_eq, TTl, Nat.reduceAdd, Nat.reduceMul, Nat.reduceSub, Nat.reduceDiv, Nat.reduceMod, Nat.reducePow, Nat.reduceEqDiff, ↓reduceIte, reduceCtorEq, Int.reduceToNat, Int.reduceAdd, Int.reduceSub, Int.reduceMul]
    exact hR
set_option maxRecDepth 20000 in
set_option maxHeartbeats 4000000 in
theorem rMayH20_cps (x : Ev) (hx : EvIn x) (w : World) (R : Ending → World → Prop) (hR : ∀ w', Mod [] w w' → R (.returned (.bool (mayH x))) w') :
    Calls Tryz.prog 50 #[evV x] w R := by
  have hR2 : ∀ b : Bool, (b = true ↔ mayH x = true) → ∀ w', Mod [] w w' → R (.returned (.bool b)) w' := fun b hb w' hM => by
    rw [Bool.eq_iff_iff.2 hb]; exact hR w' hM
  clear hR
  have hb := hx.body
  have ht := hx.tag
  unfold evV evC
  refine calls_go 4000 okT Tryz.func50 rfl (rs := [.tmp 2]) rfl Tryz.ntmps50 (args := [.agg #[.int .i64 x.f, .int .i64 x.t, .int .i64 x.fe, .int .i64 x.te, .int .i64 x.no, .string ⟨x.body.toArray⟩, .string ⟨x.tag.toArray⟩]]) ?_
  simp (maxSteps := 1000000) (disch := first | omega | (simp only [sizeAlloc, sizeDrew, sizeSet, sizePut] <;> omega) | fail) only [GS, TT_eq, TTl, Nat.reduceAdd, Nat.reduceMul, Nat.reduceSub, Nat.reduceDiv, Nat.reduceMod, Nat.reducePow, Nat.reduceEqDiff, ↓reduceIte, reduceCtorEq, Int.reduceToNat, Int.reduceAdd, Int.reduceSub, Int.reduceMul]
  generalize hW : w.alloc (.cells #[.int .i64 x.f, .int .i64 x.t, .int .i64 x.fe, .int .i64 x.te, .int .i64 x.no, .string ⟨x.body.toArray⟩, .string ⟨x.tag.toArray⟩] 42) = w1
  obtain ⟨hA, hM0⟩ := bx7 hW
  clear hW
  have cA := fun o => cellOf (o := o) hA
  refine ⟨fok76, rOrg_cps _ _ _ (.inl ⟨_, rfl, hold_ops okT (rs := [.tmp 2]) rfl ?_⟩)⟩
  by_cases h1 : 0 ≤ x.f ∧ x.f ≤ 7
  rotate_left
  · rw [show orgB x.f = false from decide_eq_false (by omega)]
    simp (maxSteps := 1000000) (disch := first | omega | (simp only [sizeAlloc, sizeDrew, sizeSet, sizePut] <;> omega) | fail) only [GS, TT_eq, TTl, Nat.reduceAdd, Nat.reduceMul, Nat.reduceSub, Nat.reduceDiv, Nat.reduceMod, Nat.reducePow, Nat.reduceEqDiff, ↓reduceIte, reduceCtorEq, Int.reduceToNat, Int.reduceAdd, Int.reduceSub, Int.reduceMul]
    exact hR2 false ⟨fun h => absurd h (by simp), fun h => by have := mayH_iff.1 h; exact absurd this.1 h1⟩ _ hM0
  rw [show orgB x.f = true from decide_eq_true (by omega)]
  simp (maxSteps := 1000000) (disch := first | omega | (simp only [sizeAlloc, sizeDrew, sizeSet, sizePut] <;> omega) | fail) only [GS, TT_eq, TTl, Nat.reduceAdd, Nat.reduceMul, Nat.reduceSub, Nat.reduceDiv, Nat.reduceMod, Nat.reducePow, Nat.reduceEqDiff, ↓reduceIte, reduceCtorEq, Int.reduceToNat, Int.reduceAdd, Int.reduceSub, Int.reduceMul, cA]
  refine ⟨fok76, rOrg_cps _ _ _ (.inl ⟨_, rfl, hold_ops okT (rs := [.tmp 2]) rfl ?_⟩)⟩
  by_cases h2 : 0 ≤ x.t ∧ x.t ≤ 7
  rotate_left
  · rw [show orgB x.t = false from decide_eq_false (by omega)]
    simp (maxSteps := 1000000) (disch := first | omega | (simp only [sizeAlloc, sizeDrew, sizeSet, sizePut] <;> omega) | fail) only [GS, TT_eq, TTl, Nat.reduceAdd, Nat.reduceMul, Nat.reduceSub, Nat.reduceDiv, Nat.reduceMod, Nat.reducePow, Nat.reduceEqDiff, ↓reduceIte, reduceCtorEq, Int.reduceToNat, Int.reduceAdd, Int.reduceSub, Int.reduceMul]
    exact hR2 false ⟨fun h => absurd h (by simp), fun h => by have := mayH_iff.1 h; exact absurd this.2.1 h2⟩ _ hM0
  rw [show orgB x.t = true from decide_eq_true (by omega)]
  by_cases h3 : x.f = x.t
  · simp (maxSteps := 1000000) (disch := first | omega | (simp only [sizeAlloc, sizeDrew, sizeSet, sizePut] <;> omega) | fail) only [GS, TT_eq, TTl, Nat.reduceAdd, Nat.reduceMul, Nat.reduceSub, Nat.reduceDiv, Nat.reduceMod, Nat.reducePow, Nat.reduceEqDiff, ↓reduceIte, reduceCtorEq, Int.reduceToNat, Int.reduceAdd, Int.reduceSub, Int.reduceMul, cA, h3, eq_self]
    exact hR2 false ⟨fun h => absurd h (by simp), fun h => absurd h3 (mayH_iff.1 h).2.2.2.2.2.1⟩ _ hM0
  simp (maxSteps := 1000000) (disch := first | omega | (simp only [sizeAlloc, sizeDrew, sizeSet, sizePut] <;> omega) | fail) only [GS, TT_eq, TTl, Nat.reduceAdd, Nat.reduceMul, Nat.reduceSub, Nat.reduceDiv, Nat.reduceMod, Nat.reducePow, Nat.reduceEqDiff, ↓reduceIte, reduceCtorEq, Int.reduceToNat, Int.reduceAdd, Int.reduceSub, Int.reduceMul, cA, h3]
  refine ⟨fok99, rEpoch_cps _ _ _ (.inl ⟨_, rfl, hold_ops okT (rs := [.tmp 2]) rfl ?_⟩)⟩
  by_cases h4 : 1 ≤ x.fe ∧ x.fe ≤ 255
  rotate_left
  · rw [show epB x.fe = false from decide_eq_false h4]
    simp (maxSteps := 1000000) (disch := first | omega | (simp only [sizeAlloc, sizeDrew, sizeSet, sizePut] <;> omega) | fail) only [GS, TT_eq, TTl, Nat.reduceAdd, Nat.reduceMul, Nat.reduceSub, Nat.reduceDiv, Nat.reduceMod, Nat.reducePow, Nat.reduceEqDiff, ↓reduceIte, reduceCtorEq, Int.reduceToNat, Int.reduceAdd, Int.reduceSub, Int.reduceMul]
    exact hR2 false ⟨fun h => absurd h (by simp), fun h => by have := mayH_iff.1 h; exact absurd this.2.2.1 h4⟩ _ hM0
  rw [show epB x.fe = true from decide_eq_true h4]
  simp (maxSteps := 1000000) (disch := first | omega | (simp only [sizeAlloc, sizeDrew, sizeSet, sizePut] <;> omega) | fail) only [GS, TT_eq, TTl, Nat.reduceAdd, Nat.reduceMul, Nat.reduceSub, Nat.reduceDiv, Nat.reduceMod, Nat.reducePow, Nat.reduceEqDiff, ↓reduceIte, reduceCtorEq, Int.reduceToNat, Int.reduceAdd, Int.reduceSub, Int.reduceMul, cA]
  refine ⟨fok99, rEpoch_cps _ _ _ (.inl ⟨_, rfl, hold_ops okT (rs := [.tmp 2]) rfl ?_⟩)⟩
  by_cases h5 : 1 ≤ x.te ∧ x.te ≤ 255
  rotate_left
  · rw [show epB x.te = false from decide_eq_false h5]
    simp (maxSteps := 1000000) (disch := first | omega | (simp only [sizeAlloc, sizeDrew, sizeSet, sizePut] <;> omega) | fail) only [GS, TT_eq, TTl, Nat.reduceAdd, Nat.reduceMul, Nat.reduceSub, Nat.reduceDiv, Nat.reduceMod, Nat.reducePow, Nat.reduceEqDiff, ↓reduceIte, reduceCtorEq, Int.reduceToNat, Int.reduceAdd, Int.reduceSub, Int.reduceMul]
    exact hR2 false ⟨fun h => absurd h (by simp), fun h => by have := mayH_iff.1 h; exact absurd this.2.2.2.1 h5⟩ _ hM0
  rw [show epB x.te = true from decide_eq_true h5]
  by_cases h6 : 1 ≤ x.no
  rotate_left
  ·
    simp (maxSteps := 1000000) (disch := first | omega | (simp only [sizeAlloc, sizeDrew, sizeSet, sizePut] <;> omega) | fail) only [GS, TT_eq, TTl, Nat.reduceAdd, Nat.reduceMul, Nat.reduceSub, Nat.reduceDiv, Nat.reduceMod, Nat.reducePow, Nat.reduceEqDiff, ↓reduceIte, reduceCtorEq, Int.reduceToNat, Int.reduceAdd, Int.reduceSub, Int.reduceMul, cA]
    exact hR2 false ⟨fun h => absurd h (by simp), fun h => by have := mayH_iff.1 h; exact absurd this.2.2.2.2.1.1 h6⟩ _ hM0
  by_cases h7 : x.no ≤ 65535
  rotate_left
  ·
    simp (maxSteps := 1000000) (disch := first | omega | (simp only [sizeAlloc, sizeDrew, sizeSet, sizePut] <;> omega) | fail) only [GS, TT_eq, TTl, Nat.reduceAdd, Nat.reduceMul, Nat.reduceSub, Nat.reduceDiv, Nat.reduceMod, Nat.reducePow, Nat.reduceEqDiff, ↓reduceIte, reduceCtorEq, Int.reduceToNat, Int.reduceAdd, Int.reduceSub, Int.reduceMul, cA]
    exact hR2 false ⟨fun h => absurd h (by simp), fun h => by have := mayH_iff.1 h; exact absurd this.2.2.2.2.1.2 h7⟩ _ hM0
  simp (maxSteps := 1000000) (disch := first | omega | (simp only [sizeAlloc, sizeDrew, sizeSet, sizePut] <;> omega) | fail) only [GS, TT_eq, TTl, Nat.reduceAdd, Nat.reduceMul, Nat.reduceSub, Nat.reduceDiv, Nat.reduceMod, Nat.reducePow, Nat.reduceEqDiff, ↓reduceIte, reduceCtorEq, Int.reduceToNat, Int.reduceAdd, Int.reduceSub, Int.reduceMul, cA]
  refine ⟨fok63, rMay_cps x.body hb _ _ fun w2 hM2 => .inl ⟨_, rfl, hold_ops okT (rs := [.tmp 2]) rfl ?_⟩⟩
  by_cases h8 : checkS x.body = 0
  · rw [decide_eq_true h8]
    simp (maxSteps := 1000000) (disch := first | omega | (simp only [sizeAlloc, sizeDrew, sizeSet, sizePut] <;> omega) | fail) only [GS, TT_eq, TTl, Nat.reduceAdd, Nat.reduceMul, Nat.reduceSub, Nat.reduceDiv, Nat.reduceMod, Nat.reducePow, Nat.reduceEqDiff, ↓reduceIte, reduceCtorEq, Int.reduceToNat, Int.reduceAdd, Int.reduceSub, Int.reduceMul]
    exact hR2 true ⟨fun _ => mayH_iff.2 ⟨h1, h2, h4, h5, ⟨h6, h7⟩, h3, h8⟩, fun _ => rfl⟩ _ (hM0.trans hM2 (by simp))
  · rw [decide_eq_false h8]
    simp (maxSteps := 1000000) (disch := first | omega | (simp only [sizeAlloc, sizeDrew, sizeSet, sizePut] <;> omega) | fail) only [GS, TT_eq, TTl, Nat.reduceAdd, Nat.reduceMul, Nat.reduceSub, Nat.reduceDiv, Nat.reduceMod, Nat.reducePow, Nat.reduceEqDiff, ↓reduceIte, reduceCtorEq, Int.reduceToNat, Int.reduceAdd, Int.reduceSub, Int.reduceMul]
    exact hR2 false ⟨fun h => absurd h (by simp), fun h => absurd (mayH_iff.1 h).2.2.2.2.2.2 h8⟩ _ (hM0.trans hM2 (by simp))
set_option maxRecDepth 20000 in
set_option maxHeartbeats 4000000 in
theorem rMay20_cps (x : Ev) (hx : EvIn x) (w : World) (R : Ending → World → Prop) (hR : ∀ w', Mod [] w w' → R (.returned (.bool (mayE x))) w') :
    Calls Tryz.prog 24 #[evV x] w R := by
  have hMH := rMayH20_cps x hx
  unfold evV evC at hMH
  have hb := hx.body
  have ht := hx.tag
  unfold evV evC
  refine calls_go 4000 okT Tryz.func24 rfl (rs := [.tmp 2]) rfl Tryz.ntmps24 (args := [.agg #[.int .i64 x.f, .int .i64 x.t, .int .i64 x.fe, .int .i64 x.te, .int .i64 x.no, .string ⟨x.body.toArray⟩, .string ⟨x.tag.toArray⟩]]) ?_
  simp (maxSteps := 1000000) (disch := first | omega | (simp only [sizeAlloc, sizeDrew, sizeSet, sizePut] <;> omega) | fail) only [GS, TT_eq, TTl, Nat.reduceAdd, Nat.reduceMul, Nat.reduceSub, Nat.reduceDiv, Nat.reduceMod, Nat.reducePow, Nat.reduceEqDiff, ↓reduceIte, reduceCtorEq, Int.reduceToNat, Int.reduceAdd, Int.reduceSub, Int.reduceMul]
  generalize hW : w.alloc (.cells #[.int .i64 x.f, .int .i64 x.t, .int .i64 x.fe, .int .i64 x.te, .int .i64 x.no, .string ⟨x.body.toArray⟩, .string ⟨x.tag.toArray⟩] 42) = w1
  obtain ⟨hA, hM0⟩ := bx7 hW
  clear hW
  have cA := fun o => cellOf (o := o) hA
  refine ⟨fok50, hMH _ _ fun w2 hM2 => .inl ⟨_, rfl, hold_ops okT (rs := [.tmp 2]) rfl ?_⟩⟩
  have hM02 := hM0.trans hM2 (by simp)
  have cA2 := fun o => cellOf (o := o) (hM2.get hA (by simp))
  unfold mayE at hR
  cases hmm : mayH x
  · rw [hmm, Bool.false_and] at hR
    simp (maxSteps := 1000000) (disch := first | omega | (simp only [sizeAlloc, sizeDrew, sizeSet, sizePut] <;> omega) | fail) only [GS, TT_eq, TTl, Nat.reduceAdd, Nat.reduceMul, Nat.reduceSub, Nat.reduceDiv, Nat.reduceMod, Nat.reducePow, Nat.reduceEqDiff, ↓reduceIte, reduceCtorEq, Int.reduceToNat, Int.reduceAdd, Int.reduceSub, Int.reduceMul]
    exact hR _ hM02
  rw [hmm, Bool.true_and] at hR
  simp (maxSteps := 1000000) (disch := first | omega | (simp only [sizeAlloc, sizeDrew, sizeSet, sizePut] <;> omega) | fail) only [GS, TT_eq, TTl, Nat.reduceAdd, Nat.reduceMul, Nat.reduceSub, Nat.reduceDiv, Nat.reduceMod, Nat.reducePow, Nat.reduceEqDiff, ↓reduceIte, reduceCtorEq, Int.reduceToNat, Int.reduceAdd, Int.reduceSub, Int.reduceMul, cA2]
  refine ⟨fok63, rMay_cps x.tag ht _ _ fun w3 hM3 => .inl ⟨_, rfl, hold_ops okT (rs := [.tmp 2]) rfl ?_⟩⟩
  simp (maxSteps := 1000000) (disch := first | omega | (simp only [sizeAlloc, sizeDrew, sizeSet, sizePut] <;> omega) | fail) only [GS, TT_eq, TTl, Nat.reduceAdd, Nat.reduceMul, Nat.reduceSub, Nat.reduceDiv, Nat.reduceMod, Nat.reducePow, Nat.reduceEqDiff, ↓reduceIte, reduceCtorEq, Int.reduceToNat, Int.reduceAdd, Int.reduceSub, Int.reduceMul]
  exact hR _ (hM02.trans hM3 (by simp))
set_option maxRecDepth 20000 in
set_option maxHeartbeats 8000000 in
theorem rParts20_cps (x : Ev) (hv : allN x = true) (w : World) (R : Ending → World → Prop) (hR : ∀ v w', w'.ownsRow w.heap.size 9 1 v (evL x).length ((evL x).map strV) → Mod [] w w' → R (.returned v) w') :
    Calls Tryz.prog 52 #[evV x] w R := by
  unfold evV evC
  refine calls_go 4000 okT Tryz.func52 rfl (rs := [.tmp 2]) rfl Tryz.ntmps52 (args := [.agg #[.int .i64 x.f, .int .i64 x.t, .int .i64 x.fe, .int .i64 x.te, .int .i64 x.no, .string ⟨x.body.toArray⟩, .string ⟨x.tag.toArray⟩]]) ?_
  simp (maxSteps := 1000000) (disch := first | omega | (simp only [sizeAlloc, sizeDrew, sizeSet, sizePut] <;> omega) | fail) only [GS, TT_eq, TTl, Nat.reduceAdd, Nat.reduceMul, Nat.reduceSub, Nat.reduceDiv, Nat.reduceMod, Nat.reducePow, Nat.reduceEqDiff, ↓reduceIte, reduceCtorEq, Int.reduceToNat, Int.reduceAdd, Int.reduceSub, Int.reduceMul]
  generalize hW : w.alloc (.cells #[.int .i64 x.f, .int .i64 x.t, .int .i64 x.fe, .int .i64 x.te, .int .i64 x.no, .string ⟨x.body.toArray⟩, .string ⟨x.tag.toArray⟩] 42) = w1
  obtain ⟨hA, hM0⟩ := bx7 hW
  clear hW
  have hDt := rData_cps EW (by unfold maxLen; decide)
  rw [dEW] at hDt
  unfold stV EW at hDt
  simp only at hDt
  refine ⟨fok67, hDt _ _ fun w2 hM_ => .inl ⟨_, rfl, hold_stop (s' := some 3) (hold_ops okT (rs := [.tmp 2]) rfl ?_)⟩⟩
  replace hA := hM_.get hA (by simp)
  replace hM0 := hM0.trans hM_ (by simp)
  clear hM_
  have hD0 : dataS [101, 110, 118] = dataS EW := rfl
  rw [hD0]
  have hnq : w.heap.size < w2.heap.size := (Array.getElem?_eq_some_iff.1 hA).1
  generalize hn : w.heap.size = n at *
  simp (maxSteps := 1000000) (disch := first | omega | (simp only [sizeAlloc, sizeDrew, sizeSet, sizePut] <;> omega) | fail) only [GS, TT_eq, TTl, Nat.reduceAdd, Nat.reduceMul, Nat.reduceSub, Nat.reduceDiv, Nat.reduceMod, Nat.reducePow, Nat.reduceEqDiff, ↓reduceIte, reduceCtorEq, Int.reduceToNat, Int.reduceAdd, Int.reduceSub, Int.reduceMul]
  have hO := rowNewE (w := w2) (e := 9) (base := n) [strV (dataS EW).1] (by unfold maxLen; simp) (by omega)
  have hM_ := (Mod.refl [] w2).alloc (.cells #[.string ⟨(dataS EW).1.toArray⟩] 9)
  generalize hW3 : w2.alloc (.cells #[.string ⟨(dataS EW).1.toArray⟩] 9) = w3 at hM_ ⊢
  replace hO : w3.ownsRow n 9 1 (.slice (some ⟨w2.heap.size, 0, none⟩) 1 1) 1 [strV (dataS EW).1] := by rw [← hW3]; exact hO
  clear hW3
  replace hA := hM_.get hA (by simp)
  replace hM0 := hM0.trans hM_ (by simp)
  clear hM_
  generalize w2.heap.size = q at *
  refine hold_stop (s' := none) ?_
  refine hold_code okT (rs := [.tmp 2]) rfl ?_
  have cA := fun o => cellOf (o := o) hA
  simp (maxSteps := 1000000) (disch := first | omega | (simp only [sizeAlloc, sizeDrew, sizeSet, sizePut] <;> omega) | fail) only [GS, TT_eq, TTl, Nat.reduceAdd, Nat.reduceMul, Nat.reduceSub, Nat.reduceDiv, Nat.reduceMod, Nat.reducePow, Nat.reduceEqDiff, ↓reduceIte, reduceCtorEq, Int.reduceToNat, Int.reduceAdd, Int.reduceSub, Int.reduceMul, cA]
  have hI := heapNew (w := w3) (o := .cells #[.int .i64 x.f, .int .i64 x.t, .int .i64 x.fe, .int .i64 x.te, .int .i64 x.no] 3)
  have hM_ := (Mod.refl [] w3).alloc (.cells #[.int .i64 x.f, .int .i64 x.t, .int .i64 x.fe, .int .i64 x.te, .int .i64 x.no] 3)
  generalize w3.alloc (.cells #[.int .i64 x.f, .int .i64 x.t, .int .i64 x.fe, .int .i64 x.te, .int .i64 x.no] 3) = w4 at hI hM_ ⊢
  replace hA := hM_.get hA (by simp)
  replace hM0 := hM0.trans hM_ (by simp)
  replace hO := ownsRow_mod hO hM_ (by simp)
  clear hM_ cA
  generalize w3.heap.size = qi at *
  refine hold_loop okT (rs := [.tmp 2]) rfl [5, 7] [8, 9, 27, 28, 29, 30, 31, 32, 33, 34, 35, 36, 37, 38, 39, 40, 41, 42, 43, 44] (fun vs w' => ∃ (k : Nat) (sv : Value), k ≤ 5 ∧ vs = [sv, .int .i64 k] ∧ w'.ownsRow n 9 1 sv (evL0 x k).length ((evL0 x k).map strV) ∧ w'.heap[n]? = some (.cells #[.int .i64 x.f, .int .i64 x.t, .int .i64 x.fe, .int .i64 x.te, .int .i64 x.no, .string ⟨x.body.toArray⟩, .string ⟨x.tag.toArray⟩] 42 (0, 0)) ∧ w'.heap[qi]? = some (.cells #[.int .i64 x.f, .int .i64 x.t, .int .i64 x.fe, .int .i64 x.te, .int .i64 x.no] 3 (0, 0)) ∧ Mod [] w w') (fun vs _ => match vs with | [_, .int _ i] => 5 - i.toNat | _ => 0) (by kernel_rfl) ⟨0, _, by omega, rfl, hO, hA, hI, hM0⟩ ?_
  clear hA hO hI hM0
  rintro vs w5 J ⟨k, sv, hk, rfl, hO, hA, hI, hM0⟩
  have hsv := ownsRow_one hO
  by_cases hlt : k < 5
  · have h64 := inN_64 hv hlt
    have hnx := evL0_next (x := x) hlt
    have hl0j := evL0_len (x := x) (j := k) (by omega)
    have dI : w5.cell? ⟨qi, k, none⟩ = some (.int .i64 ((evN x).getD k 0)) := by
      have cs := fun o => cellOf (o := o) hI
      have hj5 : k = 0 ∨ k = 1 ∨ k = 2 ∨ k = 3 ∨ k = 4 := by omega
      rcases hj5 with rfl | rfl | rfl | rfl | rfl <;> exact cs _
    generalize (evN x).getD k 0 = v at *
    simp (maxSteps := 1000000) (disch := first | omega | (simp only [sizeAlloc, sizeDrew, sizeSet, sizePut] <;> omega) | fail) only [GS, TT_eq, TTl, Nat.reduceAdd, Nat.reduceMul, Nat.reduceSub, Nat.reduceDiv, Nat.reduceMod, Nat.reducePow, Nat.reduceEqDiff, ↓reduceIte, reduceCtorEq, Int.reduceToNat, Int.reduceAdd, Int.reduceSub, Int.reduceMul, dI]
    refine ⟨fok102, rNumT_cps v h64.1 h64.2 _ _ fun w6 hM_ => .inl ⟨_, rfl, hold_ops okT (rs := [.tmp 2]) rfl ?_⟩⟩
    unfold stV
    replace hA := hM_.get hA (by simp)
    replace hI := hM_.get hI (by simp)
    replace hM0 := hM0.trans hM_ (by simp)
    replace hO := ownsRow_mod hO hM_ (by simp)
    simp (maxSteps := 1000000) (disch := first | omega | (simp only [sizeAlloc, sizeDrew, sizeSet, sizePut] <;> omega) | fail) only [GS, TT_eq, TTl, Nat.reduceAdd, Nat.reduceMul, Nat.reduceSub, Nat.reduceDiv, Nat.reduceMod, Nat.reducePow, Nat.reduceEqDiff, ↓reduceIte, reduceCtorEq, Int.reduceToNat, Int.reduceAdd, Int.reduceSub, Int.reduceMul]
    refine hold_append1 okT rfl rfl rfl rfl rfl n hO rfl rfl (u := .string ⟨(numS v).1.toArray⟩) rfl (by rw [hl0j]; simp only; omega) (by rw [hl0j]; unfold maxLen; omega) (by have := hM0.size; omega) fun v' w7 ho7 hM7 _ => hold_ops okT (rs := [.tmp 2]) rfl ?_
    have hv7 := ownsRow_one ho7
    simp (maxSteps := 1000000) (disch := first | omega | (simp only [sizeAlloc, sizeDrew, sizeSet, sizePut] <;> omega) | fail) only [GS, TT_eq, TTl, Nat.reduceAdd, Nat.reduceMul, Nat.reduceSub, Nat.reduceDiv, Nat.reduceMod, Nat.reducePow, Nat.reduceEqDiff, ↓reduceIte, reduceCtorEq, Int.reduceToNat, Int.reduceAdd, Int.reduceSub, Int.reduceMul]
    refine ⟨⟨k + 1, v', by omega, rfl, ?_, hM7.get hA (own_nin hO hA (by simp)), hM7.get hI (own_nin hO hI (by simp)), hM0.trans hM7 (fun y hy => .inr (by have := (hO.lt y (by simpa using hy)).1; omega))⟩, by omega⟩
    rw [hnx, List.length_append, List.map_append]
    exact ho7
  · have e : k = 5 := by omega
    subst e
    have cA := fun o => cellOf (o := o) hA
    simp (maxSteps := 1000000) (disch := first | omega | (simp only [sizeAlloc, sizeDrew, sizeSet, sizePut] <;> omega) | fail) only [GS, TT_eq, TTl, Nat.reduceAdd, Nat.reduceMul, Nat.reduceSub, Nat.reduceDiv, Nat.reduceMod, Nat.reducePow, Nat.reduceEqDiff, ↓reduceIte, reduceCtorEq, Int.reduceToNat, Int.reduceAdd, Int.reduceSub, Int.reduceMul, cA]
    have hl6 := evL0_len (x := x) (j := 5) (by omega)
    refine hold_append1 okT rfl rfl rfl rfl rfl n hO rfl rfl (u := .string ⟨x.body.toArray⟩) rfl (by rw [hl6]; simp only; omega) (by rw [hl6]; unfold maxLen; omega) (by have := hM0.size; omega) fun v' w7 ho7 hM7 _ => hold_ops okT (rs := [.tmp 2]) rfl ?_
    simp (maxSteps := 1000000) (disch := first | omega | (simp only [sizeAlloc, sizeDrew, sizeSet, sizePut] <;> omega) | fail) only [GS, TT_eq, TTl, Nat.reduceAdd, Nat.reduceMul, Nat.reduceSub, Nat.reduceDiv, Nat.reduceMod, Nat.reducePow, Nat.reduceEqDiff, ↓reduceIte, reduceCtorEq, Int.reduceToNat, Int.reduceAdd, Int.reduceSub, Int.reduceMul]
    have hl7 : (evL x).length = (evL0 x 5).length + 1 := by unfold evL; simp
    refine hR v' w7 ?_ (hM0.trans hM7 (fun y hy => .inr (by have := (hO.lt y (by simpa using hy)).1; omega)))
    rw [hl7]
    unfold evL
    rw [List.map_append]
    exact ho7
end Go.Proofs.YthnlmmkhehphiaaGreatDoor
