/-
  ReceiptReads (walk).
-/
import Derived.Test.YtpcilobbohokcaaGreatRrdRcq4
import Derived.Test.YtpcilobbohokcaaGreatRrdC4
set_option linter.unusedSimpArgs false
set_option linter.unusedVariables false
set_option maxRecDepth 20000
namespace Go.Proofs.YtpcilobbohokcaaGreat
open Go Go.Wk Go.RowKit
attribute [local irreducible] go Hold
open Go.Lib
set_option maxRecDepth 20000 in
set_option maxHeartbeats 32000000 in
theorem reads26_cps (S : List UInt8) (hS : S.length ≤ maxLen) (w : World) (R : Ending → World → Prop) (hR : ∀ w', Mod [] w w' → R (.returned (.bool true)) w') :
    Calls Tryz.prog 3 #[.string ⟨S.toArray⟩] w R := by
  refine calls_go 4000 okT Tryz.func3 rfl (rs := [.tmp 2]) rfl Tryz.ntmps3 (args := [.string ⟨S.toArray⟩]) ?_
  by_cases hlt : (20000 : Int) < ((S.length : Nat) : Int)
  · simp (maxSteps := 1000000) (disch := first | omega | (simp only [sizeAlloc, sizeDrew, sizeSet, sizePut] <;> omega) | fail) only [GS, TT_eq, TTl, Nat.reduceAdd, Nat.reduceMul, Nat.reduceSub, Nat.reduceDiv, Nat.reduceMod, Nat.reducePow, Nat.reduceEqDiff, ↓reduceIte, reduceCtorEq, Int.reduceToNat, Int.reduceAdd, Int.reduceSub, Int.reduceMul, hlt]
    refine ⟨fok10, alive26_cps _ _ fun w30 hM30 => .inl ⟨_, rfl, hold_ops okT (rs := [.tmp 2]) rfl ?_⟩⟩
    simp (maxSteps := 1000000) (disch := first | omega | (simp only [sizeAlloc, sizeDrew, sizeSet, sizePut] <;> omega) | fail) only [GS, TT_eq, TTl, Nat.reduceAdd, Nat.reduceMul, Nat.reduceSub, Nat.reduceDiv, Nat.reduceMod, Nat.reducePow, Nat.reduceEqDiff, ↓reduceIte, reduceCtorEq, Int.reduceToNat, Int.reduceAdd, Int.reduceSub, Int.reduceMul]
    exact hR _ hM30
  simp (maxSteps := 1000000) (disch := first | omega | (simp only [sizeAlloc, sizeDrew, sizeSet, sizePut] <;> omega) | fail) only [GS, TT_eq, TTl, Nat.reduceAdd, Nat.reduceMul, Nat.reduceSub, Nat.reduceDiv, Nat.reduceMod, Nat.reducePow, Nat.reduceEqDiff, ↓reduceIte, reduceCtorEq, Int.reduceToNat, Int.reduceAdd, Int.reduceSub, Int.reduceMul, hlt]
  refine ⟨fok11, eDecode_cps S hS _ _ (fun r sm st w1 hr how hot hM1 => .inl ⟨_, rfl, hold_stop (s' := some 4) (hold_ops okT (rs := [.tmp 2]) rfl ?_)⟩) (fun c w1 hr hM1 => .inl ⟨_, rfl, hold_stop (s' := some 4) (hold_ops okT (rs := [.tmp 2]) rfl ?_)⟩)⟩
  · have hml : r.mbs.length ≤ 6 := by
      have h1 := (may_is (of_rc hr).2.1).2.2.1
      unfold mbB at h1
      rw [Bool.and_eq_true] at h1
      exact (of_decide_eq_true h1.2).2
    have htl : r.tags.length ≤ 6 := by have := (may_is (of_rc hr).2.1).2.2.2.1; omega
    have hsm := fun sm st sn su w ha hb hta htb R hR => Same26_cps r r sm st sn su w R (by omega) (by omega) ha hb hta htb hR
    rw [decide_eq_true (show SameQ r r by exact ⟨rfl, rfl, rfl, rfl⟩)] at hsm
    have osm := ownsRow_one how
    have ost := ownsRow_one hot
    obtain ⟨⟨a, b, c⟩, aud, mbs, tags⟩ := r
    unfold rcV rcC at hsm ⊢
    simp only at hsm how hot hml htl ⊢
    simp (maxSteps := 1000000) (disch := first | omega | (simp only [sizeAlloc, sizeDrew, sizeSet, sizePut] <;> omega) | fail) only [GS, TT_eq, TTl, Nat.reduceAdd, Nat.reduceMul, Nat.reduceSub, Nat.reduceDiv, Nat.reduceMod, Nat.reducePow, Nat.reduceEqDiff, ↓reduceIte, reduceCtorEq, Int.reduceToNat, Int.reduceAdd, Int.reduceSub, Int.reduceMul, osm, cellsL_one osm, ost, cellsL_one ost]
    generalize hW : (((((((w1.alloc (.cells #[.int .i64 0, .int .i64 0, .int .i64 0, .int .i64 0, .slice none 0 0, .slice none 0 0] 28)).setCell ⟨w1.heap.size, 0, none⟩ (.int .i64 a)).setCell ⟨w1.heap.size, 1, none⟩ (.int .i64 b)).setCell ⟨w1.heap.size, 2, none⟩ (.int .i64 c)).setCell ⟨w1.heap.size, 3, none⟩ (.int .i64 aud)).setCell ⟨w1.heap.size, 4, none⟩ (sm)).setCell ⟨w1.heap.size, 5, none⟩ (st)) = w2
    obtain ⟨hA, hM12⟩ := box6 hW
    clear hW
    have how2 := ownsRow_mod how hM12 (by simp)
    have hot2 := ownsRow_mod hot hM12 (by simp)
    have hM02 := hM1.trans hM12 (by simp)
    generalize hq1 : w1.heap.size = q1 at *
    refine hold_stop (s' := none) ?_
    refine hold_code okT (rs := [.tmp 2]) rfl ?_
    simp (maxSteps := 1000000) (disch := first | omega | (simp only [sizeAlloc, sizeDrew, sizeSet, sizePut] <;> omega) | fail) only [GS, TT_eq, TTl, Nat.reduceAdd, Nat.reduceMul, Nat.reduceSub, Nat.reduceDiv, Nat.reduceMod, Nat.reducePow, Nat.reduceEqDiff, ↓reduceIte, reduceCtorEq, Int.reduceToNat, Int.reduceAdd, Int.reduceSub, Int.reduceMul]
    refine ⟨fok12, rDecode26_cps S hS _ _ (fun r' sn su w3 hr' how' hot' hM3 => .inl ⟨_, rfl, hold_stop (s' := some 5) (hold_ops okT (rs := [.tmp 2]) rfl ?_)⟩) (fun c' w3 hr' hM3 => absurd hr (by rw [hr']; simp))⟩
    have hA3 := hM3.get hA (by simp)
    have how3 := ownsRow_mod how2 hM3 (by simp)
    have hot3 := ownsRow_mod hot2 hM3 (by simp)
    have hM03 := hM02.trans hM3 (by simp)
    rw [hr] at hr'
    simp only [Except.ok.injEq] at hr'
    subst hr'
    unfold rcV rcC
    simp only at how' hot' ⊢
    have osn := ownsRow_one how'
    have osu := ownsRow_one hot'
    simp (maxSteps := 1000000) (disch := first | omega | (simp only [sizeAlloc, sizeDrew, sizeSet, sizePut] <;> omega) | fail) only [GS, TT_eq, TTl, Nat.reduceAdd, Nat.reduceMul, Nat.reduceSub, Nat.reduceDiv, Nat.reduceMod, Nat.reducePow, Nat.reduceEqDiff, ↓reduceIte, reduceCtorEq, Int.reduceToNat, Int.reduceAdd, Int.reduceSub, Int.reduceMul, osn, cellsL_one osn, osu, cellsL_one osu]
    generalize hW : (((((((w3.alloc (.cells #[.int .i64 0, .int .i64 0, .int .i64 0, .int .i64 0, .slice none 0 0, .slice none 0 0] 28)).setCell ⟨w3.heap.size, 0, none⟩ (.int .i64 a)).setCell ⟨w3.heap.size, 1, none⟩ (.int .i64 b)).setCell ⟨w3.heap.size, 2, none⟩ (.int .i64 c)).setCell ⟨w3.heap.size, 3, none⟩ (.int .i64 aud)).setCell ⟨w3.heap.size, 4, none⟩ (sn)).setCell ⟨w3.heap.size, 5, none⟩ (su)) = w4
    obtain ⟨hB, hM34⟩ := box6 hW
    clear hW
    have hA4 := hM34.get hA3 (by simp)
    have how4 := ownsRow_mod how3 hM34 (by simp)
    have hot4 := ownsRow_mod hot3 hM34 (by simp)
    have how4' := ownsRow_mod how' hM34 (by simp)
    have hot4' := ownsRow_mod hot' hM34 (by simp)
    have hM04 := hM03.trans hM34 (by simp)
    generalize hq2 : w3.heap.size = q2 at *
    refine hold_stop (s' := none) ?_
    refine hold_code okT (rs := [.tmp 2]) rfl ?_
    have cA := fun o => cellOf (o := o) hA4
    have cB := fun o => cellOf (o := o) hB
    simp (maxSteps := 1000000) (disch := first | omega | (simp only [sizeAlloc, sizeDrew, sizeSet, sizePut] <;> omega) | fail) only [GS, TT_eq, TTl, Nat.reduceAdd, Nat.reduceMul, Nat.reduceSub, Nat.reduceDiv, Nat.reduceMod, Nat.reducePow, Nat.reduceEqDiff, ↓reduceIte, reduceCtorEq, Int.reduceToNat, Int.reduceAdd, Int.reduceSub, Int.reduceMul, cA, cB, eq_self]
    refine ⟨fok13, hsm _ _ _ _ _ (Rd.own how4) (Rd.own how4') (Rd.own hot4) (Rd.own hot4') _ fun w5 hM5 => .inl ⟨_, rfl, hold_ops okT (rs := [.tmp 2]) rfl ?_⟩⟩
    have hM05 := hM04.trans hM5 (by simp)
    simp (maxSteps := 1000000) (disch := first | omega | (simp only [sizeAlloc, sizeDrew, sizeSet, sizePut] <;> omega) | fail) only [GS, TT_eq, TTl, Nat.reduceAdd, Nat.reduceMul, Nat.reduceSub, Nat.reduceDiv, Nat.reduceMod, Nat.reducePow, Nat.reduceEqDiff, ↓reduceIte, reduceCtorEq, Int.reduceToNat, Int.reduceAdd, Int.reduceSub, Int.reduceMul]
    refine ⟨fok10, alive26_cps _ _ fun w30 hM30 => .inl ⟨_, rfl, hold_ops okT (rs := [.tmp 2]) rfl ?_⟩⟩
    simp (maxSteps := 1000000) (disch := first | omega | (simp only [sizeAlloc, sizeDrew, sizeSet, sizePut] <;> omega) | fail) only [GS, TT_eq, TTl, Nat.reduceAdd, Nat.reduceMul, Nat.reduceSub, Nat.reduceDiv, Nat.reduceMod, Nat.reducePow, Nat.reduceEqDiff, ↓reduceIte, reduceCtorEq, Int.reduceToNat, Int.reduceAdd, Int.reduceSub, Int.reduceMul]
    exact hR _ (hM05.trans hM30 (by simp))
  · have hcz : ¬ (c : Int) = 0 := by have := (decRc_err hr).1; omega
    have hsm := fun sm st sn su w ha hb hta htb R hR => Same26_cps ⟨(0, 0, 0), 0, [], []⟩ ⟨(0, 0, 0), 0, [], []⟩ sm st sn su w R (by simp) (by simp) ha hb hta htb hR
    rw [decide_eq_true (by exact ⟨rfl, rfl, rfl, rfl⟩)] at hsm
    have how : w1.ownsRow 0 126 2 (.slice none 0 0) ([] : List Mb).length (([] : List Mb).flatMap mbC) := World.ownsRow_nil _ _ _ _
    have hot : w1.ownsRow 0 9 1 (.slice none 0 0) ([] : List (List UInt8)).length (([] : List (List UInt8)).map strV) := World.ownsRow_nil _ _ _ _
    unfold rcV rcC at hsm
    unfold rcZ
    simp only at hsm
    simp (maxSteps := 1000000) (disch := first | omega | (simp only [sizeAlloc, sizeDrew, sizeSet, sizePut] <;> omega) | fail) only [GS, TT_eq, TTl, Nat.reduceAdd, Nat.reduceMul, Nat.reduceSub, Nat.reduceDiv, Nat.reduceMod, Nat.reducePow, Nat.reduceEqDiff, ↓reduceIte, reduceCtorEq, Int.reduceToNat, Int.reduceAdd, Int.reduceSub, Int.reduceMul]
    generalize hW : (((((((w1.alloc (.cells #[.int .i64 0, .int .i64 0, .int .i64 0, .int .i64 0, .slice none 0 0, .slice none 0 0] 28)).setCell ⟨w1.heap.size, 0, none⟩ (.int .i64 0)).setCell ⟨w1.heap.size, 1, none⟩ (.int .i64 0)).setCell ⟨w1.heap.size, 2, none⟩ (.int .i64 0)).setCell ⟨w1.heap.size, 3, none⟩ (.int .i64 0)).setCell ⟨w1.heap.size, 4, none⟩ (.slice none 0 0)).setCell ⟨w1.heap.size, 5, none⟩ (.slice none 0 0)) = w2
    obtain ⟨hA, hM12⟩ := box6 hW
    clear hW
    have how2 := ownsRow_mod how hM12 (by simp)
    have hot2 := ownsRow_mod hot hM12 (by simp)
    have hM02 := hM1.trans hM12 (by simp)
    generalize hq1 : w1.heap.size = q1 at *
    refine hold_stop (s' := none) ?_
    refine hold_code okT (rs := [.tmp 2]) rfl ?_
    simp (maxSteps := 1000000) (disch := first | omega | (simp only [sizeAlloc, sizeDrew, sizeSet, sizePut] <;> omega) | fail) only [GS, TT_eq, TTl, Nat.reduceAdd, Nat.reduceMul, Nat.reduceSub, Nat.reduceDiv, Nat.reduceMod, Nat.reducePow, Nat.reduceEqDiff, ↓reduceIte, reduceCtorEq, Int.reduceToNat, Int.reduceAdd, Int.reduceSub, Int.reduceMul]
    refine ⟨fok12, rDecode26_cps S hS _ _ (fun r' sn su w3 hr' how' hot' hM3 => absurd hr (by rw [hr']; simp)) (fun c' w3 hr' hM3 => .inl ⟨_, rfl, hold_stop (s' := some 5) (hold_ops okT (rs := [.tmp 2]) rfl ?_)⟩)⟩
    have hA3 := hM3.get hA (by simp)
    have how3 := ownsRow_mod how2 hM3 (by simp)
    have hot3 := ownsRow_mod hot2 hM3 (by simp)
    have hM03 := hM02.trans hM3 (by simp)
    rw [hr] at hr'
    simp only [Except.error.injEq] at hr'
    subst hr'
    have how' : w3.ownsRow 0 126 2 (.slice none 0 0) ([] : List Mb).length (([] : List Mb).flatMap mbC) := World.ownsRow_nil _ _ _ _
    have hot' : w3.ownsRow 0 9 1 (.slice none 0 0) ([] : List (List UInt8)).length (([] : List (List UInt8)).map strV) := World.ownsRow_nil _ _ _ _
    unfold rcZ
    simp (maxSteps := 1000000) (disch := first | omega | (simp only [sizeAlloc, sizeDrew, sizeSet, sizePut] <;> omega) | fail) only [GS, TT_eq, TTl, Nat.reduceAdd, Nat.reduceMul, Nat.reduceSub, Nat.reduceDiv, Nat.reduceMod, Nat.reducePow, Nat.reduceEqDiff, ↓reduceIte, reduceCtorEq, Int.reduceToNat, Int.reduceAdd, Int.reduceSub, Int.reduceMul]
    generalize hW : (((((((w3.alloc (.cells #[.int .i64 0, .int .i64 0, .int .i64 0, .int .i64 0, .slice none 0 0, .slice none 0 0] 28)).setCell ⟨w3.heap.size, 0, none⟩ (.int .i64 0)).setCell ⟨w3.heap.size, 1, none⟩ (.int .i64 0)).setCell ⟨w3.heap.size, 2, none⟩ (.int .i64 0)).setCell ⟨w3.heap.size, 3, none⟩ (.int .i64 0)).setCell ⟨w3.heap.size, 4, none⟩ (.slice none 0 0)).setCell ⟨w3.heap.size, 5, none⟩ (.slice none 0 0)) = w4
    obtain ⟨hB, hM34⟩ := box6 hW
    clear hW
    have hA4 := hM34.get hA3 (by simp)
    have how4 := ownsRow_mod how3 hM34 (by simp)
    have hot4 := ownsRow_mod hot3 hM34 (by simp)
    have how4' := ownsRow_mod how' hM34 (by simp)
    have hot4' := ownsRow_mod hot' hM34 (by simp)
    have hM04 := hM03.trans hM34 (by simp)
    generalize hq2 : w3.heap.size = q2 at *
    refine hold_stop (s' := none) ?_
    refine hold_code okT (rs := [.tmp 2]) rfl ?_
    have cA := fun o => cellOf (o := o) hA4
    have cB := fun o => cellOf (o := o) hB
    simp (maxSteps := 1000000) (disch := first | omega | (simp only [sizeAlloc, sizeDrew, sizeSet, sizePut] <;> omega) | fail) only [GS, TT_eq, TTl, Nat.reduceAdd, Nat.reduceMul, Nat.reduceSub, Nat.reduceDiv, Nat.reduceMod, Nat.reducePow, Nat.reduceEqDiff, ↓reduceIte, reduceCtorEq, Int.reduceToNat, Int.reduceAdd, Int.reduceSub, Int.reduceMul, cA, cB, eq_self]
    refine ⟨fok13, hsm _ _ _ _ _ (Rd.own how4) (Rd.own how4') (Rd.own hot4) (Rd.own hot4') _ fun w5 hM5 => .inl ⟨_, rfl, hold_ops okT (rs := [.tmp 2]) rfl ?_⟩⟩
    have hM05 := hM04.trans hM5 (by simp)
    simp (maxSteps := 1000000) (disch := first | omega | (simp only [sizeAlloc, sizeDrew, sizeSet, sizePut] <;> omega) | fail) only [GS, TT_eq, TTl, Nat.reduceAdd, Nat.reduceMul, Nat.reduceSub, Nat.reduceDiv, Nat.reduceMod, Nat.reducePow, Nat.reduceEqDiff, ↓reduceIte, reduceCtorEq, Int.reduceToNat, Int.reduceAdd, Int.reduceSub, Int.reduceMul]
    refine ⟨fok10, alive26_cps _ _ fun w30 hM30 => .inl ⟨_, rfl, hold_ops okT (rs := [.tmp 2]) rfl ?_⟩⟩
    simp (maxSteps := 1000000) (disch := first | omega | (simp only [sizeAlloc, sizeDrew, sizeSet, sizePut] <;> omega) | fail) only [GS, TT_eq, TTl, Nat.reduceAdd, Nat.reduceMul, Nat.reduceSub, Nat.reduceDiv, Nat.reduceMod, Nat.reducePow, Nat.reduceEqDiff, ↓reduceIte, reduceCtorEq, Int.reduceToNat, Int.reduceAdd, Int.reduceSub, Int.reduceMul]
    exact hR _ (hM05.trans hM30 (by simp))
end Go.Proofs.YtpcilobbohokcaaGreat
