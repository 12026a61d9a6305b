/-
  The reference's May and flag (walks).
-/
import Derived.Test.YtpcilobbohokcaaGreatPbgRefG
import Derived.Test.YtpcilobbohokcaaGreatPbgRefC
set_option linter.unusedSimpArgs false
set_option linter.unusedVariables false
set_option maxRecDepth 20000
namespace Go.Proofs.YtpcilobbohokcaaGreat
open Go Go.Wk Go.RowKit
attribute [local irreducible] go Hold
open Go.Lib
theorem kd_word (k : Nat) : wordS k = [] ↔ kdOk k = false := by
  unfold kdOk
  constructor
  · intro h
    refine decide_eq_false fun hk => ?_
    have : k = 1 ∨ k = 2 ∨ k = 3 ∨ k = 4 ∨ k = 5 ∨ k = 6 := by omega
    rcases this with rfl | rfl | rfl | rfl | rfl | rfl <;> simp [wordS] at h
  · intro h
    have := of_decide_eq_false h
    unfold wordS
    split <;> first | omega | rfl
theorem bare_idle {m : Msg} (h : SameP (bareM m) m) : idleB m = true ∧ (m.k = 2 → m.yes = false → m.tag = []) := by
  obtain ⟨k, ⟨a, b, c⟩, aud, mbs, body, yes, tag⟩ := m
  unfold SameP bareM at h
  unfold idleB
  simp only at h ⊢
  by_cases h1 : k = 1
  · subst h1
    simp only [if_true] at h
    obtain ⟨-, -, -, -, -, h6, h7⟩ := h
    subst h6 h7
    simp
  · by_cases h2 : k = 2
    · subst h2
      simp only [if_true] at h
      rw [if_neg (by decide)] at h
      obtain ⟨-, -, h3, h4, h5, h6, h7⟩ := h
      simp only at h3 h4 h5 h6 h7
      subst h3 h4 h5
      refine ⟨by simp, fun _ hy => ?_⟩
      rw [hy] at h7
      simpa using h7.symm
    · by_cases h3 : k = 3
      · subst h3
        simp only [if_true] at h
        rw [if_neg (by decide), if_neg (by decide)] at h
        obtain ⟨-, -, h3, h4, h5, h6, h7⟩ := h
        simp only at h3 h4 h5 h6 h7
        subst h3 h4 h5 h7
        simp
      · by_cases h6 : k = 6
        · subst h6
          simp only [if_true] at h
          rw [if_neg (by decide), if_neg (by decide), if_neg (by decide)] at h
          obtain ⟨-, h2', h3, h4, h5, h6, h7⟩ := h
          simp only at h2' h3 h4 h5 h6 h7
          rw [← h2']
          subst h3 h4 h5 h6 h7
          simp
        · rw [if_neg h1, if_neg h2, if_neg h3, if_neg h6] at h
          obtain ⟨-, -, h3', h4, h5, h6', h7⟩ := h
          simp only at h3' h4 h5 h6' h7
          subst h3' h4 h5 h6' h7
          simp [h1, h2, h3, h6]
theorem idle_bare {k : Nat} {m : Msg} (hk0 : m.k = k) (hc : checkB k m = true) : SameP (bareM m) m := by
  obtain ⟨hk, hi, -, hf⟩ := check_is hc
  obtain ⟨i1, i2, i3, i4⟩ := idle_is hi
  obtain ⟨k', tx, aud, mbs, body, yes, tag⟩ := m
  simp only at hk0 i1 i2 i3 i4
  subst hk0
  unfold SameP bareM
  simp only
  by_cases h1 : (k : Int) = 1
  · rw [if_pos h1]
    exact ⟨rfl, rfl, rfl, rfl, rfl, (i2 (by omega) (by omega)).symm, (i3 (by omega)).symm⟩
  · obtain ⟨rfl, rfl, rfl⟩ := i1 h1
    rw [if_neg h1]
    by_cases h2 : (k : Int) = 2
    · rw [if_pos h2]
      refine ⟨rfl, rfl, rfl, rfl, rfl, rfl, ?_⟩
      have hk2 : k = 2 := by omega
      subst hk2
      have hf : k4B _ = true := hf
      unfold k4B at hf
      simp only [Bool.and_eq_true] at hf
      cases yes
      · have : tag = [] := by simpa using hf.1
        rw [this]; rfl
      · rfl
    · rw [if_neg h2]
      by_cases h3 : (k : Int) = 3
      · rw [if_pos h3]
        exact ⟨rfl, rfl, rfl, rfl, rfl, rfl, (i3 (by omega)).symm⟩
      · rw [if_neg h3]
        by_cases h6 : (k : Int) = 6
        · rw [if_pos h6]
          exact ⟨rfl, (i4 (by omega)).symm, rfl, rfl, rfl, (i2 (by omega) (by omega)).symm, (i3 (by omega)).symm⟩
        · rw [if_neg h6]
          exact ⟨rfl, rfl, rfl, rfl, rfl, (i2 (by omega) (by omega)).symm, (i3 (by omega)).symm⟩
theorem agg9 {w w' : World} {p t : Nat} {x0 x1 x2 x3 x4 x5 x6 x7 x8 : Value} (hh : w.heap[p]? = some (.cells #[x0, x1, x2, x3, x4, x5, x6, x7, x8] t (0, 0))) (hM : Mod [] w w') : aggO (consO (w'.cell? ⟨p, 0, none⟩) (consO (w'.cell? ⟨p, 1, none⟩) (consO (w'.cell? ⟨p, 2, none⟩) (consO (w'.cell? ⟨p, 3, none⟩) (consO (w'.cell? ⟨p, 4, none⟩) (consO (w'.cell? ⟨p, 5, none⟩) (consO (w'.cell? ⟨p, 6, none⟩) (consO (w'.cell? ⟨p, 7, none⟩) (consO (w'.cell? ⟨p, 8, none⟩) (some [])))))))))) = some (.agg #[x0, x1, x2, x3, x4, x5, x6, x7, x8]) := by
  have c := fun o => cellOf (o := o) (hM.get hh (by simp))
  rw [c 0, c 1, c 2, c 3, c 4, c 5, c 6, c 7, c 8]
  rfl
set_option maxRecDepth 20000 in
set_option maxHeartbeats 16000000 in
theorem rMay12_cps (m : Msg) (k : Nat) (hk0 : m.k = k) (hk : k < 256) (sa : Value) (hB : m.body.length ≤ maxLen) (hT : m.tag.length ≤ maxLen) (hl : m.mbs.length ≤ 1000000) (hd : ∀ x ∈ m.mbs, x.2.length ≤ maxLen) (w : World) (ha : Rd w 2 sa m.mbs.length (m.mbs.flatMap mbC)) (R : Ending → World → Prop) (hR : ∀ w', Mod [] w w' → R (.returned (.bool (checkB k m))) w') : Calls Tryz.prog 20 #[msgV m sa] w R := by
  have os : sa.oneCell' = true := by obtain ⟨a, c, e⟩ := ha.slice; rw [e]; rfl
  have hBr := fun w => rBare_cps m sa w os
  have hSm := fun w R h => Same12_cps (bareM m) m (bareS m sa) sa w R h
  have hbm : (bareM m).mbs.length ≤ 1000000 ∧ ∀ w', Mod [] w w' → Rd w' 2 (bareS m sa) (bareM m).mbs.length ((bareM m).mbs.flatMap mbC) := by
    unfold bareM bareS
    by_cases h1 : m.k = 1
    · rw [if_pos h1, if_pos h1]
      exact ⟨hl, fun w' hM => ha.mod hM (by simp)⟩
    · rw [if_neg h1, if_neg h1]
      refine ⟨?_, fun w' hM => ?_⟩
      · repeat' split
        all_goals simp
      · repeat' split
        all_goals exact rdNil w' 0
  have hcS : checkB k m = true → SameP (bareM m) m := idle_bare hk0
  have hSi := @bare_idle m
  have hCB : checkB k m = (kdOk k && idleB m && (decide (k = 6) || txB m.tx) && formB k m) := rfl
  have hf1 : k = 1 → formB k m = k1B m := fun h => by rw [h]; rfl
  have hf2 : k = 2 → formB k m = k4B m := fun h => by rw [h]; rfl
  have hf3 : k ≠ 1 → k ≠ 2 → formB k m = true := fun h h2 => by unfold formB; split <;> first | omega | rfl
  have hMt := rMayTxn_cps m.tx
  have hMm := rMayMembers_cps m.tx sa m.mbs
  have hMb := rMay_cps m.body hB
  have hMg := rMay_cps m.tag hT
  generalize hQ : decide (SameP (bareM m) m) = Q at hSm
  have hQ1 : Q = false → checkB k m = false := fun h => by
    cases hc : checkB k m
    · rfl
    · have := hcS hc
      rw [h] at hQ
      exact absurd this (of_decide_eq_false hQ)
  have hQ2 : Q = true → idleB m = true ∧ (m.k = 2 → m.yes = false → m.tag = []) := fun h => hSi (of_decide_eq_true (by rw [hQ]; exact h))
  clear hcS hSi hQ
  generalize bareM m = BM at *
  generalize bareS m sa = BS at *
  generalize hcb : checkB k m = CB at *
  obtain ⟨k', ⟨a, b, c⟩, aud, mbs, body, yes, tag⟩ := m
  simp only at hk0; subst hk0
  unfold msgV msgC at hBr hSm ⊢
  unfold txV at hMt hMm
  simp only at hBr hSm hMt hMm hMb hMg hB hT hl hd ha hQ2 ⊢
  refine calls_go 4000 okT Tryz.func20 rfl (rs := [.tmp 2]) rfl Tryz.ntmps20 (args := [.agg #[.int .u8 k, .int .i64 a, .int .i64 b, .int .i64 c, .int .i64 aud, sa, .string ⟨body.toArray⟩, .bool yes, .string ⟨tag.toArray⟩]]) ?_
  simp (maxSteps := 1000000) (disch := first | omega | (simp only [sizeAlloc, sizeDrew, sizeSet, sizePut] <;> omega) | fail) only [GS, TT_eq, TTl, Nat.reduceAdd, Nat.reduceMul, Nat.reduceSub, Nat.reduceDiv, Nat.reduceMod, Nat.reducePow, Nat.reduceEqDiff, ↓reduceIte, reduceCtorEq, Int.reduceToNat, Int.reduceAdd, Int.reduceSub, Int.reduceMul, os, cellsL_one os]
  have hM0 := (Mod.refl [] w).alloc (.cells #[.int .u8 k, .int .i64 a, .int .i64 b, .int .i64 c, .int .i64 aud, sa, .string ⟨body.toArray⟩, .bool yes, .string ⟨tag.toArray⟩] 35)
  have hA := heapNew (w := w) (o := .cells #[.int .u8 k, .int .i64 a, .int .i64 b, .int .i64 c, .int .i64 aud, sa, .string ⟨body.toArray⟩, .bool yes, .string ⟨tag.toArray⟩] 35)
  generalize w.alloc (.cells #[.int .u8 k, .int .i64 a, .int .i64 b, .int .i64 c, .int .i64 aud, sa, .string ⟨body.toArray⟩, .bool yes, .string ⟨tag.toArray⟩] 35) = w1 at hM0 hA ⊢
  generalize hn : w.heap.size = n at *
  refine hold_draw okT (rs := [.tmp 2]) rfl [0, 1, 3, 7, 15, 31, 63, 31, 255, 511, 1023] [0, 1, 2, 3, 4, 5, 7, 6, 8, 9, 10] (by kernel_rfl) (by kernel_rfl) ?_
  have hA1 : (w1.drewN 1).heap[n]? = _ := hA
  have hM1 := hM0.drewN 1
  generalize w1.drewN 1 = w2 at *
  have c2 := fun o => cellOf (o := o) hA1
  simp (maxSteps := 1000000) (disch := first | omega | (simp only [sizeAlloc, sizeDrew, sizeSet, sizePut] <;> omega) | fail) only [GS, TT_eq, TTl, Nat.reduceAdd, Nat.reduceMul, Nat.reduceSub, Nat.reduceDiv, Nat.reduceMod, Nat.reducePow, Nat.reduceEqDiff, ↓reduceIte, reduceCtorEq, Int.reduceToNat, Int.reduceAdd, Int.reduceSub, Int.reduceMul, c2]
  refine ⟨fok23, rWord_cps k hk _ _ (.inl ⟨_, rfl, ?_⟩)⟩
  first | refine hold_dops okT (rs := [.tmp 2]) rfl ?_ | refine ⟨trivial, hold_dops okT (rs := [.tmp 2]) rfl ?_⟩
  cases hkd : kdOk k
  · have hw := (kd_word k).2 hkd
    rw [hkd] at hCB
    simp only [Bool.false_and] at hCB
    rw [hw]
    subst hCB
    simp (maxSteps := 1000000) (disch := first | omega | (simp only [sizeAlloc, sizeDrew, sizeSet, sizePut] <;> omega) | fail) only [GS, TT_eq, TTl, Nat.reduceAdd, Nat.reduceMul, Nat.reduceSub, Nat.reduceDiv, Nat.reduceMod, Nat.reducePow, Nat.reduceEqDiff, ↓reduceIte, reduceCtorEq, Int.reduceToNat, Int.reduceAdd, Int.reduceSub, Int.reduceMul, eq_self]
    exact hR _ hM1
  have hw : ¬ wordS k = [] := fun e => by have := (kd_word k).1 e; rw [hkd] at this; simp at this
  simp (maxSteps := 1000000) (disch := first | omega | (simp only [sizeAlloc, sizeDrew, sizeSet, sizePut] <;> omega) | fail) only [GS, TT_eq, TTl, Nat.reduceAdd, Nat.reduceMul, Nat.reduceSub, Nat.reduceDiv, Nat.reduceMod, Nat.reducePow, Nat.reduceEqDiff, ↓reduceIte, reduceCtorEq, Int.reduceToNat, Int.reduceAdd, Int.reduceSub, Int.reduceMul, c2, hw]
  have hagA : ∀ w' : World, Mod [] w2 w' → aggO (consO (w'.cell? ⟨n, 0, none⟩) (consO (w'.cell? ⟨n, 1, none⟩) (consO (w'.cell? ⟨n, 2, none⟩) (consO (w'.cell? ⟨n, 3, none⟩) (consO (w'.cell? ⟨n, 4, none⟩) (consO (w'.cell? ⟨n, 5, none⟩) (consO (w'.cell? ⟨n, 6, none⟩) (consO (w'.cell? ⟨n, 7, none⟩) (consO (w'.cell? ⟨n, 8, none⟩) (some [])))))))))) = some (.agg #[.int .u8 k, .int .i64 a, .int .i64 b, .int .i64 c, .int .i64 aud, sa, .string ⟨body.toArray⟩, .bool yes, .string ⟨tag.toArray⟩]) := fun w' hM => agg9 hA1 hM
  refine ⟨fok91, hBr _ _ fun w3 hM3 => .inl ⟨_, rfl, hagA _ hM3, hold_dops okT (rs := [.tmp 2]) rfl ?_⟩⟩
  simp (maxSteps := 1000000) (disch := first | omega | (simp only [sizeAlloc, sizeDrew, sizeSet, sizePut] <;> omega) | fail) only [GS, TT_eq, TTl, Nat.reduceAdd, Nat.reduceMul, Nat.reduceSub, Nat.reduceDiv, Nat.reduceMod, Nat.reducePow, Nat.reduceEqDiff, ↓reduceIte, reduceCtorEq, Int.reduceToNat, Int.reduceAdd, Int.reduceSub, Int.reduceMul]
  have hM13 := hM1.trans hM3 (by simp)
  have hA3 := hM3.get hA1 (by simp)
  refine ⟨fok21, hSm _ _ hbm.1 (hbm.2 _ hM13) (ha.mod hM13 (by simp)) fun w4 hM4 => .inl ⟨_, rfl, ?_⟩⟩
  have hA4 := hM4.get hA3 (by simp)
  have hM14 := hM13.trans hM4 (by simp)
  have hag4 := hagA _ (hM3.trans hM4 (by simp))
  have c4 := fun o => cellOf (o := o) hA4
  first | refine ⟨hag4, hag4, hold_dops okT (rs := [.tmp 2]) rfl ?_⟩ | refine ⟨hag4, hold_dops okT (rs := [.tmp 2]) rfl ?_⟩ | refine hold_dops okT (rs := [.tmp 2]) rfl ?_
  cases Q
  · have h0 := hQ1 rfl
    subst h0
    simp (maxSteps := 1000000) (disch := first | omega | (simp only [sizeAlloc, sizeDrew, sizeSet, sizePut] <;> omega) | fail) only [GS, TT_eq, TTl, Nat.reduceAdd, Nat.reduceMul, Nat.reduceSub, Nat.reduceDiv, Nat.reduceMod, Nat.reducePow, Nat.reduceEqDiff, ↓reduceIte, reduceCtorEq, Int.reduceToNat, Int.reduceAdd, Int.reduceSub, Int.reduceMul]
    exact hR _ hM14
  obtain ⟨hid, hyt⟩ := hQ2 rfl
  rw [hkd, hid, Bool.true_and, Bool.true_and] at hCB
  by_cases h6 : (k : Int) = 6
  · rw [hf3 (by omega) (by omega), decide_eq_true (show k = 6 by omega)] at hCB
    simp only [Bool.true_or, Bool.true_and] at hCB
    subst hCB
    simp (maxSteps := 1000000) (disch := first | omega | (simp only [sizeAlloc, sizeDrew, sizeSet, sizePut] <;> omega) | fail) only [GS, TT_eq, TTl, Nat.reduceAdd, Nat.reduceMul, Nat.reduceSub, Nat.reduceDiv, Nat.reduceMod, Nat.reducePow, Nat.reduceEqDiff, ↓reduceIte, reduceCtorEq, Int.reduceToNat, Int.reduceAdd, Int.reduceSub, Int.reduceMul, c4, h6]
    exact hR _ hM14
  rw [decide_eq_false (show ¬ k = 6 by omega), Bool.false_or] at hCB
  simp (maxSteps := 1000000) (disch := first | omega | (simp only [sizeAlloc, sizeDrew, sizeSet, sizePut] <;> omega) | fail) only [GS, TT_eq, TTl, Nat.reduceAdd, Nat.reduceMul, Nat.reduceSub, Nat.reduceDiv, Nat.reduceMod, Nat.reducePow, Nat.reduceEqDiff, ↓reduceIte, reduceCtorEq, Int.reduceToNat, Int.reduceAdd, Int.reduceSub, Int.reduceMul, c4, h6]
  refine ⟨fok43, hMt _ _ fun w5 hM5 => .inl ⟨_, rfl, hold_ops okT (rs := [.tmp 2]) rfl ?_⟩⟩
  have hA5 := hM5.get hA4 (by simp)
  have hM15 := hM14.trans hM5 (by simp)
  have c5 := fun o => cellOf (o := o) hA5
  cases htx : txB (a, b, c)
  · rw [htx] at hCB
    rw [Bool.false_and] at hCB
    subst hCB
    simp (maxSteps := 1000000) (disch := first | omega | (simp only [sizeAlloc, sizeDrew, sizeSet, sizePut] <;> omega) | fail) only [GS, TT_eq, TTl, Nat.reduceAdd, Nat.reduceMul, Nat.reduceSub, Nat.reduceDiv, Nat.reduceMod, Nat.reducePow, Nat.reduceEqDiff, ↓reduceIte, reduceCtorEq, Int.reduceToNat, Int.reduceAdd, Int.reduceSub, Int.reduceMul]
    exact hR _ hM15
  rw [htx, Bool.true_and] at hCB
  by_cases h1 : (k : Int) = 1
  · rw [hf1 (by omega)] at hCB
    unfold k1B at hCB
    simp only at hCB
    simp (maxSteps := 1000000) (disch := first | omega | (simp only [sizeAlloc, sizeDrew, sizeSet, sizePut] <;> omega) | fail) only [GS, TT_eq, TTl, Nat.reduceAdd, Nat.reduceMul, Nat.reduceSub, Nat.reduceDiv, Nat.reduceMod, Nat.reducePow, Nat.reduceEqDiff, ↓reduceIte, reduceCtorEq, Int.reduceToNat, Int.reduceAdd, Int.reduceSub, Int.reduceMul, c5, h1]
    refine ⟨fok92, rOrg_cps aud _ _ (.inl ⟨_, rfl, hold_ops okT (rs := [.tmp 2]) rfl ?_⟩)⟩
    cases hog : orgB aud
    · rw [hog, Bool.false_and, Bool.false_and] at hCB
      subst hCB
      simp (maxSteps := 1000000) (disch := first | omega | (simp only [sizeAlloc, sizeDrew, sizeSet, sizePut] <;> omega) | fail) only [GS, TT_eq, TTl, Nat.reduceAdd, Nat.reduceMul, Nat.reduceSub, Nat.reduceDiv, Nat.reduceMod, Nat.reducePow, Nat.reduceEqDiff, ↓reduceIte, reduceCtorEq, Int.reduceToNat, Int.reduceAdd, Int.reduceSub, Int.reduceMul]
      exact hR _ hM15
    rw [hog, Bool.true_and] at hCB
    simp (maxSteps := 1000000) (disch := first | omega | (simp only [sizeAlloc, sizeDrew, sizeSet, sizePut] <;> omega) | fail) only [GS, TT_eq, TTl, Nat.reduceAdd, Nat.reduceMul, Nat.reduceSub, Nat.reduceDiv, Nat.reduceMod, Nat.reducePow, Nat.reduceEqDiff, ↓reduceIte, reduceCtorEq, Int.reduceToNat, Int.reduceAdd, Int.reduceSub, Int.reduceMul, c5]
    refine ⟨fok45, hMm _ _ (by omega) hd (ha.mod hM15 (by simp)) fun w6 hM6 => .inl ⟨_, rfl, hold_ops okT (rs := [.tmp 2]) rfl ?_⟩⟩
    have hA6 := hM6.get hA5 (by simp)
    have hM16 := hM15.trans hM6 (by simp)
    have c6 := fun o => cellOf (o := o) hA6
    cases hmm : mbB a mbs
    · rw [hmm, Bool.false_and] at hCB
      subst hCB
      simp (maxSteps := 1000000) (disch := first | omega | (simp only [sizeAlloc, sizeDrew, sizeSet, sizePut] <;> omega) | fail) only [GS, TT_eq, TTl, Nat.reduceAdd, Nat.reduceMul, Nat.reduceSub, Nat.reduceDiv, Nat.reduceMod, Nat.reducePow, Nat.reduceEqDiff, ↓reduceIte, reduceCtorEq, Int.reduceToNat, Int.reduceAdd, Int.reduceSub, Int.reduceMul]
      exact hR _ hM16
    rw [hmm, Bool.true_and] at hCB
    simp (maxSteps := 1000000) (disch := first | omega | (simp only [sizeAlloc, sizeDrew, sizeSet, sizePut] <;> omega) | fail) only [GS, TT_eq, TTl, Nat.reduceAdd, Nat.reduceMul, Nat.reduceSub, Nat.reduceDiv, Nat.reduceMod, Nat.reducePow, Nat.reduceEqDiff, ↓reduceIte, reduceCtorEq, Int.reduceToNat, Int.reduceAdd, Int.reduceSub, Int.reduceMul, c6]
    refine ⟨fok93, hMb _ _ fun w7 hM7 => .inl ⟨_, rfl, hold_ops okT (rs := [.tmp 2]) rfl ?_⟩⟩
    rw [← hCB]
    simp (maxSteps := 1000000) (disch := first | omega | (simp only [sizeAlloc, sizeDrew, sizeSet, sizePut] <;> omega) | fail) only [GS, TT_eq, TTl, Nat.reduceAdd, Nat.reduceMul, Nat.reduceSub, Nat.reduceDiv, Nat.reduceMod, Nat.reducePow, Nat.reduceEqDiff, ↓reduceIte, reduceCtorEq, Int.reduceToNat, Int.reduceAdd, Int.reduceSub, Int.reduceMul]
    exact hR _ (hM16.trans hM7 (by simp))
  by_cases h2 : (k : Int) = 2
  · rw [hf2 (by omega)] at hCB
    unfold k4B at hCB
    simp only at hCB
    simp (maxSteps := 1000000) (disch := first | omega | (simp only [sizeAlloc, sizeDrew, sizeSet, sizePut] <;> omega) | fail) only [GS, TT_eq, TTl, Nat.reduceAdd, Nat.reduceMul, Nat.reduceSub, Nat.reduceDiv, Nat.reduceMod, Nat.reducePow, Nat.reduceEqDiff, ↓reduceIte, reduceCtorEq, Int.reduceToNat, Int.reduceAdd, Int.reduceSub, Int.reduceMul, c5, h1, h2]
    cases yes
    · have hte := hyt (by omega) rfl
      subst hte
      have hCB : CB = true := hCB
      subst hCB
      simp (maxSteps := 1000000) (disch := first | omega | (simp only [sizeAlloc, sizeDrew, sizeSet, sizePut] <;> omega) | fail) only [GS, TT_eq, TTl, Nat.reduceAdd, Nat.reduceMul, Nat.reduceSub, Nat.reduceDiv, Nat.reduceMod, Nat.reducePow, Nat.reduceEqDiff, ↓reduceIte, reduceCtorEq, Int.reduceToNat, Int.reduceAdd, Int.reduceSub, Int.reduceMul]
      exact hR _ hM15
    · simp (maxSteps := 1000000) (disch := first | omega | (simp only [sizeAlloc, sizeDrew, sizeSet, sizePut] <;> omega) | fail) only [GS, TT_eq, TTl, Nat.reduceAdd, Nat.reduceMul, Nat.reduceSub, Nat.reduceDiv, Nat.reduceMod, Nat.reducePow, Nat.reduceEqDiff, ↓reduceIte, reduceCtorEq, Int.reduceToNat, Int.reduceAdd, Int.reduceSub, Int.reduceMul, c5]
      refine ⟨fok93, hMg _ _ fun w6 hM6 => .inl ⟨_, rfl, hold_ops okT (rs := [.tmp 2]) rfl ?_⟩⟩
      have hcc : decide (checkS tag = 0) = CB := by
        rw [hCB]
        by_cases ht : tag = []
        · subst ht; rfl
        · simp [ht]; rfl
      rw [hcc]
      simp (maxSteps := 1000000) (disch := first | omega | (simp only [sizeAlloc, sizeDrew, sizeSet, sizePut] <;> omega) | fail) only [GS, TT_eq, TTl, Nat.reduceAdd, Nat.reduceMul, Nat.reduceSub, Nat.reduceDiv, Nat.reduceMod, Nat.reducePow, Nat.reduceEqDiff, ↓reduceIte, reduceCtorEq, Int.reduceToNat, Int.reduceAdd, Int.reduceSub, Int.reduceMul]
      exact hR _ (hM15.trans hM6 (by simp))
  · rw [hf3 (by omega) (by omega)] at hCB
    subst hCB
    simp (maxSteps := 1000000) (disch := first | omega | (simp only [sizeAlloc, sizeDrew, sizeSet, sizePut] <;> omega) | fail) only [GS, TT_eq, TTl, Nat.reduceAdd, Nat.reduceMul, Nat.reduceSub, Nat.reduceDiv, Nat.reduceMod, Nat.reducePow, Nat.reduceEqDiff, ↓reduceIte, reduceCtorEq, Int.reduceToNat, Int.reduceAdd, Int.reduceSub, Int.reduceMul, c5, h1, h2]
    exact hR _ hM15
end Go.Proofs.YtpcilobbohokcaaGreat
