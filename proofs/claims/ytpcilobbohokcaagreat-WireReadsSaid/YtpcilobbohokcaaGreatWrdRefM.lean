/-
  WireReads (walk).
-/
import Derived.Test.YtpcilobbohokcaaGreatWrdRefL
import Derived.Test.YtpcilobbohokcaaGreatWrdWirV
set_option linter.unusedSimpArgs false
set_option linter.unusedVariables false
set_option maxRecDepth 20000
namespace Go.Proofs.YtpcilobbohokcaaGreat
open Go Go.Wk Go.RowKit
attribute [local irreducible] go Hold
open Go.Lib
set_option maxRecDepth 20000 in
set_option maxHeartbeats 32000000 in
theorem reads12_cps (S : List UInt8) (hS : S.length ≤ maxLen) (w : World) (R : Ending → World → Prop) (hR : ∀ w', Mod [] w w' → R (.returned (.bool true)) w') :
    Calls Tryz.prog 5 #[.string ⟨S.toArray⟩] w R := by
  refine calls_go 4000 okT Tryz.func5 rfl (rs := [.tmp 2]) rfl Tryz.ntmps5 (args := [.string ⟨S.toArray⟩]) ?_
  by_cases hlt : (20000 : Int) < ((S.length : Nat) : Int)
  · simp (maxSteps := 1000000) (disch := first | omega | (simp only [sizeAlloc, sizeDrew, sizeSet, sizePut] <;> omega) | fail) only [GS, TT_eq, TTl, Nat.reduceAdd, Nat.reduceMul, Nat.reduceSub, Nat.reduceDiv, Nat.reduceMod, Nat.reducePow, Nat.reduceEqDiff, ↓reduceIte, reduceCtorEq, Int.reduceToNat, Int.reduceAdd, Int.reduceSub, Int.reduceMul, hlt]
    refine ⟨fok15, alive12_cps _ _ fun w30 hM30 => .inl ⟨_, rfl, hold_ops okT (rs := [.tmp 2]) rfl ?_⟩⟩
    simp (maxSteps := 1000000) (disch := first | omega | (simp only [sizeAlloc, sizeDrew, sizeSet, sizePut] <;> omega) | fail) only [GS, TT_eq, TTl, Nat.reduceAdd, Nat.reduceMul, Nat.reduceSub, Nat.reduceDiv, Nat.reduceMod, Nat.reducePow, Nat.reduceEqDiff, ↓reduceIte, reduceCtorEq, Int.reduceToNat, Int.reduceAdd, Int.reduceSub, Int.reduceMul]
    exact hR _ hM30
  simp (maxSteps := 1000000) (disch := first | omega | (simp only [sizeAlloc, sizeDrew, sizeSet, sizePut] <;> omega) | fail) only [GS, TT_eq, TTl, Nat.reduceAdd, Nat.reduceMul, Nat.reduceSub, Nat.reduceDiv, Nat.reduceMod, Nat.reducePow, Nat.reduceEqDiff, ↓reduceIte, reduceCtorEq, Int.reduceToNat, Int.reduceAdd, Int.reduceSub, Int.reduceMul, hlt]
  refine ⟨fok24, wDecode_cps S hS _ _ (fun m sv w1 hm hown hM1 => .inl ⟨_, rfl, hold_stop (s' := some 4) (hold_ops okT (rs := [.tmp 2]) rfl ?_)⟩) (fun hm w1 hM1 => .inl ⟨_, rfl, hold_stop (s' := some 4) (hold_ops okT (rs := [.tmp 2]) rfl ?_)⟩)⟩
  · obtain ⟨y3, y4⟩ : m.mbs.length ≤ 6 ∧ True := by
      obtain ⟨kx, hkx, hkx6, hcx, hex⟩ := enc_dec hm
      exact ⟨(small_of hkx hcx).2.2.2.1, trivial⟩
    have hsm := fun sv tv w ha hb R hR => Same12_cps m m sv tv w R (by omega) ha hb hR
    rw [decide_eq_true (show SameP m m from ⟨rfl, rfl, rfl, rfl, rfl, rfl, rfl⟩)] at hsm
    have hsv := ownsRow_one hown
    obtain ⟨k, ⟨a, b, c⟩, aud, mbs, body, yes, tag⟩ := m
    unfold msgV msgC at hsm ⊢
    simp only at hsm hown hsv y3 ⊢
    simp (maxSteps := 1000000) (disch := first | omega | (simp only [sizeAlloc, sizeDrew, sizeSet, sizePut] <;> omega) | fail) only [GS, TT_eq, TTl, Nat.reduceAdd, Nat.reduceMul, Nat.reduceSub, Nat.reduceDiv, Nat.reduceMod, Nat.reducePow, Nat.reduceEqDiff, ↓reduceIte, reduceCtorEq, Int.reduceToNat, Int.reduceAdd, Int.reduceSub, Int.reduceMul, cellsL_one hsv, hsv]
    generalize hW : ((((((((((w1.alloc (.cells #[.int .u8 0, .int .i64 0, .int .i64 0, .int .i64 0, .int .i64 0, .slice none 0 0, .string ⟨#[]⟩, .bool false, .string ⟨#[]⟩] 35)).setCell ⟨w1.heap.size, 0, none⟩ (.int .u8 k)).setCell ⟨w1.heap.size, 1, none⟩ (.int .i64 a)).setCell ⟨w1.heap.size, 2, none⟩ (.int .i64 b)).setCell ⟨w1.heap.size, 3, none⟩ (.int .i64 c)).setCell ⟨w1.heap.size, 4, none⟩ (.int .i64 aud)).setCell ⟨w1.heap.size, 5, none⟩ (sv)).setCell ⟨w1.heap.size, 6, none⟩ (.string ⟨body.toArray⟩)).setCell ⟨w1.heap.size, 7, none⟩ (.bool yes)).setCell ⟨w1.heap.size, 8, none⟩ (.string ⟨tag.toArray⟩)) = w2
    obtain ⟨hA, hM12⟩ := box9 hW
    clear hW
    have hown2 := ownsRow_mod hown hM12 (by simp)
    have hM02 := hM1.trans hM12 (by simp)
    generalize hq1 : w1.heap.size = q1 at *
    refine hold_stop (s' := none) ?_
    refine hold_code okT (rs := [.tmp 2]) rfl ?_
    simp (maxSteps := 1000000) (disch := first | omega | (simp only [sizeAlloc, sizeDrew, sizeSet, sizePut] <;> omega) | fail) only [GS, TT_eq, TTl, Nat.reduceAdd, Nat.reduceMul, Nat.reduceSub, Nat.reduceDiv, Nat.reduceMod, Nat.reducePow, Nat.reduceEqDiff, ↓reduceIte, reduceCtorEq, Int.reduceToNat, Int.reduceAdd, Int.reduceSub, Int.reduceMul]
    refine ⟨fok25, rDecode12_cps S hS _ _ (fun m' tv w3 hm' hownT hM3 => .inl ⟨_, rfl, hold_stop (s' := some 5) (hold_ops okT (rs := [.tmp 2]) rfl ?_)⟩) (fun hm' => absurd hm (by rw [hm']; simp))⟩
    have hA3 := hM3.get hA (by simp)
    have hown3 := ownsRow_mod hown2 hM3 (by simp)
    have hM03 := hM02.trans hM3 (by simp)
    rw [hm] at hm'
    simp only [Option.some.injEq] at hm'
    subst hm'
    unfold msgV msgC
    simp only
    have hsv := ownsRow_one hown3
    have htv := ownsRow_one hownT
    simp (maxSteps := 1000000) (disch := first | omega | (simp only [sizeAlloc, sizeDrew, sizeSet, sizePut] <;> omega) | fail) only [GS, TT_eq, TTl, Nat.reduceAdd, Nat.reduceMul, Nat.reduceSub, Nat.reduceDiv, Nat.reduceMod, Nat.reducePow, Nat.reduceEqDiff, ↓reduceIte, reduceCtorEq, Int.reduceToNat, Int.reduceAdd, Int.reduceSub, Int.reduceMul, cellsL_one htv, htv]
    generalize hW : ((((((((((w3.alloc (.cells #[.int .u8 0, .int .i64 0, .int .i64 0, .int .i64 0, .int .i64 0, .slice none 0 0, .string ⟨#[]⟩, .bool false, .string ⟨#[]⟩] 35)).setCell ⟨w3.heap.size, 0, none⟩ (.int .u8 k)).setCell ⟨w3.heap.size, 1, none⟩ (.int .i64 a)).setCell ⟨w3.heap.size, 2, none⟩ (.int .i64 b)).setCell ⟨w3.heap.size, 3, none⟩ (.int .i64 c)).setCell ⟨w3.heap.size, 4, none⟩ (.int .i64 aud)).setCell ⟨w3.heap.size, 5, none⟩ (tv)).setCell ⟨w3.heap.size, 6, none⟩ (.string ⟨body.toArray⟩)).setCell ⟨w3.heap.size, 7, none⟩ (.bool yes)).setCell ⟨w3.heap.size, 8, none⟩ (.string ⟨tag.toArray⟩)) = w4
    obtain ⟨hB, hM34⟩ := box9 hW
    clear hW
    have hA4 := hM34.get hA3 (by simp)
    have hown4 := ownsRow_mod hown3 hM34 (by simp)
    have hownT4 := ownsRow_mod hownT hM34 (by simp)
    have hM04 := hM03.trans hM34 (by simp)
    generalize hq2 : w3.heap.size = q2 at *
    refine hold_stop (s' := none) ?_
    refine hold_code okT (rs := [.tmp 2]) rfl ?_
    have cA := fun o => cellOf (o := o) hA4
    have cB := fun o => cellOf (o := o) hB
    simp (maxSteps := 1000000) (disch := first | omega | (simp only [sizeAlloc, sizeDrew, sizeSet, sizePut] <;> omega) | fail) only [GS, TT_eq, TTl, Nat.reduceAdd, Nat.reduceMul, Nat.reduceSub, Nat.reduceDiv, Nat.reduceMod, Nat.reducePow, Nat.reduceEqDiff, ↓reduceIte, reduceCtorEq, Int.reduceToNat, Int.reduceAdd, Int.reduceSub, Int.reduceMul, cA, cB, eq_self]
    refine ⟨fok21, hsm _ _ _ (Rd.own hown4) (Rd.own hownT4) _ fun w5 hM5 => .inl ⟨_, rfl, hold_ops okT (rs := [.tmp 2]) rfl ?_⟩⟩
    have hM05 := hM04.trans hM5 (by simp)
    simp (maxSteps := 1000000) (disch := first | omega | (simp only [sizeAlloc, sizeDrew, sizeSet, sizePut] <;> omega) | fail) only [GS, TT_eq, TTl, Nat.reduceAdd, Nat.reduceMul, Nat.reduceSub, Nat.reduceDiv, Nat.reduceMod, Nat.reducePow, Nat.reduceEqDiff, ↓reduceIte, reduceCtorEq, Int.reduceToNat, Int.reduceAdd, Int.reduceSub, Int.reduceMul]
    refine ⟨fok15, alive12_cps _ _ fun w30 hM30 => .inl ⟨_, rfl, hold_ops okT (rs := [.tmp 2]) rfl ?_⟩⟩
    simp (maxSteps := 1000000) (disch := first | omega | (simp only [sizeAlloc, sizeDrew, sizeSet, sizePut] <;> omega) | fail) only [GS, TT_eq, TTl, Nat.reduceAdd, Nat.reduceMul, Nat.reduceSub, Nat.reduceDiv, Nat.reduceMod, Nat.reducePow, Nat.reduceEqDiff, ↓reduceIte, reduceCtorEq, Int.reduceToNat, Int.reduceAdd, Int.reduceSub, Int.reduceMul]
    exact hR _ (hM05.trans hM30 (by simp))
  · have hsm := fun sv tv w ha hb R hR => Same12_cps ⟨0, (0, 0, 0), 0, [], [], false, []⟩ ⟨0, (0, 0, 0), 0, [], [], false, []⟩ sv tv w R (by simp) ha hb hR
    rw [decide_eq_true (by exact ⟨rfl, rfl, rfl, rfl, rfl, rfl, rfl⟩)] at hsm
    unfold msgV msgC at hsm
    unfold msgZ
    simp only at hsm
    have hown : w1.ownsRow 0 126 2 (.slice none 0 0) ([] : List Mb).length (([] : List Mb).flatMap mbC) := World.ownsRow_nil _ _ _ _
    simp (maxSteps := 1000000) (disch := first | omega | (simp only [sizeAlloc, sizeDrew, sizeSet, sizePut] <;> omega) | fail) only [GS, TT_eq, TTl, Nat.reduceAdd, Nat.reduceMul, Nat.reduceSub, Nat.reduceDiv, Nat.reduceMod, Nat.reducePow, Nat.reduceEqDiff, ↓reduceIte, reduceCtorEq, Int.reduceToNat, Int.reduceAdd, Int.reduceSub, Int.reduceMul]
    generalize hW : ((((((((((w1.alloc (.cells #[.int .u8 0, .int .i64 0, .int .i64 0, .int .i64 0, .int .i64 0, .slice none 0 0, .string ⟨#[]⟩, .bool false, .string ⟨#[]⟩] 35)).setCell ⟨w1.heap.size, 0, none⟩ (.int .u8 0)).setCell ⟨w1.heap.size, 1, none⟩ (.int .i64 0)).setCell ⟨w1.heap.size, 2, none⟩ (.int .i64 0)).setCell ⟨w1.heap.size, 3, none⟩ (.int .i64 0)).setCell ⟨w1.heap.size, 4, none⟩ (.int .i64 0)).setCell ⟨w1.heap.size, 5, none⟩ (.slice none 0 0)).setCell ⟨w1.heap.size, 6, none⟩ (.string ⟨#[]⟩)).setCell ⟨w1.heap.size, 7, none⟩ (.bool false)).setCell ⟨w1.heap.size, 8, none⟩ (.string ⟨#[]⟩)) = w2
    obtain ⟨hA, hM12⟩ := box9 hW
    clear hW
    have hown2 := ownsRow_mod hown hM12 (by simp)
    have hM02 := hM1.trans hM12 (by simp)
    generalize hq1 : w1.heap.size = q1 at *
    refine hold_stop (s' := none) ?_
    refine hold_code okT (rs := [.tmp 2]) rfl ?_
    simp (maxSteps := 1000000) (disch := first | omega | (simp only [sizeAlloc, sizeDrew, sizeSet, sizePut] <;> omega) | fail) only [GS, TT_eq, TTl, Nat.reduceAdd, Nat.reduceMul, Nat.reduceSub, Nat.reduceDiv, Nat.reduceMod, Nat.reducePow, Nat.reduceEqDiff, ↓reduceIte, reduceCtorEq, Int.reduceToNat, Int.reduceAdd, Int.reduceSub, Int.reduceMul]
    refine ⟨fok25, rDecode12_cps S hS _ _ (fun m' tv w3 hm' => absurd hm' (by rw [hm]; simp)) (fun hm' w3 hM3 => .inl ⟨_, rfl, hold_stop (s' := some 5) (hold_ops okT (rs := [.tmp 2]) rfl ?_)⟩)⟩
    have hA3 := hM3.get hA (by simp)
    have hown3 := ownsRow_mod hown2 hM3 (by simp)
    have hM03 := hM02.trans hM3 (by simp)
    have hownT : w3.ownsRow 0 126 2 (.slice none 0 0) ([] : List Mb).length (([] : List Mb).flatMap mbC) := World.ownsRow_nil _ _ _ _
    unfold msgZ
    have hsv := ownsRow_one hown3
    have htv := ownsRow_one hownT
    simp (maxSteps := 1000000) (disch := first | omega | (simp only [sizeAlloc, sizeDrew, sizeSet, sizePut] <;> omega) | fail) only [GS, TT_eq, TTl, Nat.reduceAdd, Nat.reduceMul, Nat.reduceSub, Nat.reduceDiv, Nat.reduceMod, Nat.reducePow, Nat.reduceEqDiff, ↓reduceIte, reduceCtorEq, Int.reduceToNat, Int.reduceAdd, Int.reduceSub, Int.reduceMul, cellsL_one htv, htv]
    generalize hW : ((((((((((w3.alloc (.cells #[.int .u8 0, .int .i64 0, .int .i64 0, .int .i64 0, .int .i64 0, .slice none 0 0, .string ⟨#[]⟩, .bool false, .string ⟨#[]⟩] 35)).setCell ⟨w3.heap.size, 0, none⟩ (.int .u8 0)).setCell ⟨w3.heap.size, 1, none⟩ (.int .i64 0)).setCell ⟨w3.heap.size, 2, none⟩ (.int .i64 0)).setCell ⟨w3.heap.size, 3, none⟩ (.int .i64 0)).setCell ⟨w3.heap.size, 4, none⟩ (.int .i64 0)).setCell ⟨w3.heap.size, 5, none⟩ (.slice none 0 0)).setCell ⟨w3.heap.size, 6, none⟩ (.string ⟨#[]⟩)).setCell ⟨w3.heap.size, 7, none⟩ (.bool false)).setCell ⟨w3.heap.size, 8, none⟩ (.string ⟨#[]⟩)) = w4
    obtain ⟨hB, hM34⟩ := box9 hW
    clear hW
    have hA4 := hM34.get hA3 (by simp)
    have hown4 := ownsRow_mod hown3 hM34 (by simp)
    have hownT4 := ownsRow_mod hownT hM34 (by simp)
    have hM04 := hM03.trans hM34 (by simp)
    generalize hq2 : w3.heap.size = q2 at *
    refine hold_stop (s' := none) ?_
    refine hold_code okT (rs := [.tmp 2]) rfl ?_
    have cA := fun o => cellOf (o := o) hA4
    have cB := fun o => cellOf (o := o) hB
    simp (maxSteps := 1000000) (disch := first | omega | (simp only [sizeAlloc, sizeDrew, sizeSet, sizePut] <;> omega) | fail) only [GS, TT_eq, TTl, Nat.reduceAdd, Nat.reduceMul, Nat.reduceSub, Nat.reduceDiv, Nat.reduceMod, Nat.reducePow, Nat.reduceEqDiff, ↓reduceIte, reduceCtorEq, Int.reduceToNat, Int.reduceAdd, Int.reduceSub, Int.reduceMul, cA, cB, eq_self]
    refine ⟨fok21, hsm _ _ _ (Rd.own hown4) (Rd.own hownT4) _ fun w5 hM5 => .inl ⟨_, rfl, hold_ops okT (rs := [.tmp 2]) rfl ?_⟩⟩
    have hM05 := hM04.trans hM5 (by simp)
    simp (maxSteps := 1000000) (disch := first | omega | (simp only [sizeAlloc, sizeDrew, sizeSet, sizePut] <;> omega) | fail) only [GS, TT_eq, TTl, Nat.reduceAdd, Nat.reduceMul, Nat.reduceSub, Nat.reduceDiv, Nat.reduceMod, Nat.reducePow, Nat.reduceEqDiff, ↓reduceIte, reduceCtorEq, Int.reduceToNat, Int.reduceAdd, Int.reduceSub, Int.reduceMul]
    refine ⟨fok15, alive12_cps _ _ fun w30 hM30 => .inl ⟨_, rfl, hold_ops okT (rs := [.tmp 2]) rfl ?_⟩⟩
    simp (maxSteps := 1000000) (disch := first | omega | (simp only [sizeAlloc, sizeDrew, sizeSet, sizePut] <;> omega) | fail) only [GS, TT_eq, TTl, Nat.reduceAdd, Nat.reduceMul, Nat.reduceSub, Nat.reduceDiv, Nat.reduceMod, Nat.reducePow, Nat.reduceEqDiff, ↓reduceIte, reduceCtorEq, Int.reduceToNat, Int.reduceAdd, Int.reduceSub, Int.reduceMul]
    exact hR _ (hM05.trans hM30 (by simp))
end Go.Proofs.YtpcilobbohokcaaGreat
