/-
  chirographlaw12.alive (walk).
-/
import Derived.Test.YtpcilobbohokcaaWirT
set_option linter.unusedSimpArgs false
set_option linter.unusedVariables false
namespace Go.Proofs.Ytpcilobbohokcaa
open Go Go.Wk Go.RowKit
attribute [local irreducible] go Hold
open Go.Lib
def M6 : Msg := ⟨6, (0, 0, 0), 0, [], [], false, []⟩
def B6 : List UInt8 := [114, 1, 100, 5, 104, 101, 108, 108, 111]
def M4 : Msg := ⟨4, (0, 1, 2), 0, [], [], false, []⟩
def B4 : List UInt8 := [114, 2, 100, 3, 97, 99, 107, 114, 3, 100, 1, 0, 100, 1, 1, 100, 1, 2]
def M2 : Msg := ⟨2, (0, 1, 2), 0, [], [], false, B6⟩
theorem al6 : encS 6 M6 = (B6, 0) := by decide +kernel
theorem al4 : encS 4 M4 = (B4, 0) := by decide +kernel
theorem al2 : encS 2 M2 = ([], 2) := by decide +kernel
theorem ald : decO B4 = some M4 := dec_enc (k := 4) rfl al4
theorem alc : checkS B4 = 0 := by decide +kernel
theorem alp : (partsS B4).length = 2 := by decide +kernel
theorem rdNil (w : World) (n : Nat) : Rd w 2 (.slice none 0 0) 0 [] := ⟨rfl, none, 0, rfl, Nat.le_refl 0, fun j u hj => by simp at hj⟩
set_option maxRecDepth 20000 in
set_option maxHeartbeats 8000000 in
theorem alive12_cps (w : World) (R : Ending → World → Prop) (hR : ∀ w', Mod [] w w' → R (.returned (.bool true)) w') : Calls Try.prog 16 #[] w R := by
  have hE6 := fun w R hR => wEncode_cps M6 6 rfl (by decide) (.slice none 0 0) (by decide) (by decide) (by unfold maxLen; decide) (by unfold maxLen; decide) (by decide) (by intro x hx; simp [M6] at hx) w (rdNil w 0) R hR
  have hE4 := fun w R hR => wEncode_cps M4 4 rfl (by decide) (.slice none 0 0) (by decide) (by decide) (by unfold maxLen; decide) (by unfold maxLen; decide) (by decide) (by intro x hx; simp [M4] at hx) w (rdNil w 0) R hR
  have hE2 := fun w R hR => wEncode_cps M2 2 rfl (by decide) (.slice none 0 0) (by decide) (by decide) (by unfold maxLen; decide) (by unfold maxLen; decide) (by decide) (by intro x hx; simp [M2] at hx) w (rdNil w 0) R hR
  rw [al6] at hE6
  rw [al4] at hE4
  rw [al2] at hE2
  unfold stV B6 M6 msgV msgC at hE6
  unfold stV B4 M4 msgV msgC at hE4
  unfold stV M2 msgV msgC B6 at hE2
  simp only at hE6 hE4 hE2
  refine calls_go 4000 okT Try.func16 rfl (rs := [.tmp 0]) rfl Try.ntmps16 (args := []) ?_
  simp (config := { maxSteps := 1000000 }) (disch := first | omega | (simp only [sizeAlloc, sizeDrew, sizeSet, sizePut] <;> omega) | fail) only [GS1, GS2, GS3, GS4, GS5, GS6, GS7, GS8, GS9, GS10, GS11, TT_eq, TTl, Nat.reduceAdd, Nat.reduceMul, Nat.reduceSub, Nat.reduceDiv, Nat.reduceMod, Nat.reducePow, Nat.reduceEqDiff, ↓reduceIte, reduceCtorEq, true_and, and_true, and_self, false_and, and_false, Int.reduceToNat, Int.reduceAdd, Int.reduceSub, Int.reduceMul, cond_true, cond_false, List.toList_toArray, Option.map_some, Option.map_none, Option.some.injEq, List.cons_append, List.nil_append, List.length_cons, List.length_nil, List.getD_cons_zero, List.getD_cons_succ]
  refine ⟨fok18, hE6 _ _ fun w1 hM1 => .inl ⟨_, rfl, hold_ops okT (rs := [.tmp 0]) rfl ?_⟩⟩
  simp (config := { maxSteps := 1000000 }) (disch := first | omega | (simp only [sizeAlloc, sizeDrew, sizeSet, sizePut] <;> omega) | fail) only [GS1, GS2, GS3, GS4, GS5, GS6, GS7, GS8, GS9, GS10, GS11, TT_eq, TTl, Nat.reduceAdd, Nat.reduceMul, Nat.reduceSub, Nat.reduceDiv, Nat.reduceMod, Nat.reducePow, Nat.reduceEqDiff, ↓reduceIte, reduceCtorEq, true_and, and_true, and_self, false_and, and_false, Int.reduceToNat, Int.reduceAdd, Int.reduceSub, Int.reduceMul, cond_true, cond_false, List.toList_toArray, Option.map_some, Option.map_none, Option.some.injEq, List.cons_append, List.nil_append, List.length_cons, List.length_nil, List.getD_cons_zero, List.getD_cons_succ]
  have hhT := st3 (heapNew (w := w1) (o := .cells #[.int .i64 0, .int .i64 0, .int .i64 0] 23)) (x := .int .i64 0) (y := .int .i64 1) (z := .int .i64 2)
  have hMT : Mod [] w _ := (((hM1.alloc (.cells #[.int .i64 0, .int .i64 0, .int .i64 0] 23)).set (p := ⟨w1.heap.size, 0, none⟩) (.inr hM1.size) (.int .i64 0)).set (p := ⟨w1.heap.size, 1, none⟩) (.inr hM1.size) (.int .i64 1)).set (p := ⟨w1.heap.size, 2, none⟩) (.inr hM1.size) (.int .i64 2)
  revert hhT hMT
  generalize (((w1.alloc (.cells #[.int .i64 0, .int .i64 0, .int .i64 0] 23)).setCell ⟨w1.heap.size, 0, none⟩ (.int .i64 0)).setCell ⟨w1.heap.size, 1, none⟩ (.int .i64 1)).setCell ⟨w1.heap.size, 2, none⟩ (.int .i64 2) = w2
  generalize w1.heap.size = b
  intro hhT hMT
  refine ⟨fok18, hE4 _ _ fun w3 hM3 => .inl ⟨_, rfl, hold_ops okT (rs := [.tmp 0]) rfl ?_⟩⟩
  have hh3 := hM3.get hhT (by simp)
  have hM03 := hMT.trans hM3 (by simp)
  have c3 := fun o => cellOf (o := o) hh3
  simp (config := { maxSteps := 1000000 }) (disch := first | omega | (simp only [sizeAlloc, sizeDrew, sizeSet, sizePut] <;> omega) | fail) only [GS1, GS2, GS3, GS4, GS5, GS6, GS7, GS8, GS9, GS10, GS11, TT_eq, TTl, Nat.reduceAdd, Nat.reduceMul, Nat.reduceSub, Nat.reduceDiv, Nat.reduceMod, Nat.reducePow, Nat.reduceEqDiff, ↓reduceIte, reduceCtorEq, true_and, and_true, and_self, false_and, and_false, Int.reduceToNat, Int.reduceAdd, Int.reduceSub, Int.reduceMul, cond_true, cond_false, List.toList_toArray, Option.map_some, Option.map_none, Option.some.injEq, List.cons_append, List.nil_append, List.length_cons, List.length_nil, List.getD_cons_zero, List.getD_cons_succ, c3]
  refine ⟨fok18, hE2 _ _ fun w4 hM4 => .inl ⟨_, rfl, hold_ops okT (rs := [.tmp 0]) rfl ?_⟩⟩
  have hh4 := hM4.get hh3 (by simp)
  have hM04 := hM03.trans hM4 (by simp)
  simp (config := { maxSteps := 1000000 }) (disch := first | omega | (simp only [sizeAlloc, sizeDrew, sizeSet, sizePut] <;> omega) | fail) only [GS1, GS2, GS3, GS4, GS5, GS6, GS7, GS8, GS9, GS10, GS11, TT_eq, TTl, Nat.reduceAdd, Nat.reduceMul, Nat.reduceSub, Nat.reduceDiv, Nat.reduceMod, Nat.reducePow, Nat.reduceEqDiff, ↓reduceIte, reduceCtorEq, true_and, and_true, and_self, false_and, and_false, Int.reduceToNat, Int.reduceAdd, Int.reduceSub, Int.reduceMul, cond_true, cond_false, List.toList_toArray, Option.map_some, Option.map_none, Option.some.injEq, List.cons_append, List.nil_append, List.length_cons, List.length_nil, List.getD_cons_zero, List.getD_cons_succ]
  refine ⟨fok17, wDecode_cps B4 (by unfold maxLen; decide) _ _ (fun m sv w5 hm hown hM5 => .inl ⟨_, rfl, hold_ops okT (rs := [.tmp 0]) rfl ?_⟩) (fun hm w5 hM5 => by rw [ald] at hm; simp at hm)⟩
  have hm4 : m = M4 := by rw [ald] at hm; exact (Option.some.inj hm).symm
  subst hm4
  have hh5 := hM5.get hh4 (by simp)
  have hM05 := hM04.trans hM5 (by simp)
  have hsv := ownsRow_one hown
  have hrd := Rd.own hown
  unfold M4 at hrd
  unfold msgV msgC M4
  simp only at hrd ⊢
  simp (config := { maxSteps := 1000000 }) (disch := first | omega | (simp only [sizeAlloc, sizeDrew, sizeSet, sizePut] <;> omega) | fail) only [GS1, GS2, GS3, GS4, GS5, GS6, GS7, GS8, GS9, GS10, GS11, TT_eq, TTl, Nat.reduceAdd, Nat.reduceMul, Nat.reduceSub, Nat.reduceDiv, Nat.reduceMod, Nat.reducePow, Nat.reduceEqDiff, ↓reduceIte, reduceCtorEq, true_and, and_true, and_self, false_and, and_false, Int.reduceToNat, Int.reduceAdd, Int.reduceSub, Int.reduceMul, cond_true, cond_false, List.toList_toArray, Option.map_some, Option.map_none, Option.some.injEq, List.cons_append, List.nil_append, List.length_cons, List.length_nil, List.getD_cons_zero, List.getD_cons_succ, cellsL_one hsv, hsv]
  have hhm : ((((((((((w5.alloc (.cells #[.int .u8 0, .int .i64 0, .int .i64 0, .int .i64 0, .int .i64 0, .slice none 0 0, .string ⟨#[]⟩, .bool false, .string ⟨#[]⟩] 42)).setCell ⟨w5.heap.size, 0, none⟩ (.int .u8 4)).setCell ⟨w5.heap.size, 1, none⟩ (.int .i64 0)).setCell ⟨w5.heap.size, 2, none⟩ (.int .i64 1)).setCell ⟨w5.heap.size, 3, none⟩ (.int .i64 2)).setCell ⟨w5.heap.size, 4, none⟩ (.int .i64 0)).setCell ⟨w5.heap.size, 5, none⟩ sv).setCell ⟨w5.heap.size, 6, none⟩ (.string ⟨#[]⟩)).setCell ⟨w5.heap.size, 7, none⟩ (.bool false)).setCell ⟨w5.heap.size, 8, none⟩ (.string ⟨#[]⟩)).heap[w5.heap.size]? = _ := st9 (heapNew (w := w5) (o := .cells #[.int .u8 0, .int .i64 0, .int .i64 0, .int .i64 0, .int .i64 0, .slice none 0 0, .string ⟨#[]⟩, .bool false, .string ⟨#[]⟩] 42))
  have hMm : Mod [] w5 ((((((((((w5.alloc (.cells #[.int .u8 0, .int .i64 0, .int .i64 0, .int .i64 0, .int .i64 0, .slice none 0 0, .string ⟨#[]⟩, .bool false, .string ⟨#[]⟩] 42)).setCell ⟨w5.heap.size, 0, none⟩ (.int .u8 4)).setCell ⟨w5.heap.size, 1, none⟩ (.int .i64 0)).setCell ⟨w5.heap.size, 2, none⟩ (.int .i64 1)).setCell ⟨w5.heap.size, 3, none⟩ (.int .i64 2)).setCell ⟨w5.heap.size, 4, none⟩ (.int .i64 0)).setCell ⟨w5.heap.size, 5, none⟩ sv).setCell ⟨w5.heap.size, 6, none⟩ (.string ⟨#[]⟩)).setCell ⟨w5.heap.size, 7, none⟩ (.bool false)).setCell ⟨w5.heap.size, 8, none⟩ (.string ⟨#[]⟩)) := (((((((((((Mod.refl [] w5).alloc (.cells #[.int .u8 0, .int .i64 0, .int .i64 0, .int .i64 0, .int .i64 0, .slice none 0 0, .string ⟨#[]⟩, .bool false, .string ⟨#[]⟩] 42)).set (p := ⟨w5.heap.size, 0, none⟩) (.inr (Nat.le_refl _)) (.int .u8 4)).set (p := ⟨w5.heap.size, 1, none⟩) (.inr (Nat.le_refl _)) (.int .i64 0)).set (p := ⟨w5.heap.size, 2, none⟩) (.inr (Nat.le_refl _)) (.int .i64 1)).set (p := ⟨w5.heap.size, 3, none⟩) (.inr (Nat.le_refl _)) (.int .i64 2)).set (p := ⟨w5.heap.size, 4, none⟩) (.inr (Nat.le_refl _)) (.int .i64 0)).set (p := ⟨w5.heap.size, 5, none⟩) (.inr (Nat.le_refl _)) sv).set (p := ⟨w5.heap.size, 6, none⟩) (.inr (Nat.le_refl _)) (.string ⟨#[]⟩)).set (p := ⟨w5.heap.size, 7, none⟩) (.inr (Nat.le_refl _)) (.bool false)).set (p := ⟨w5.heap.size, 8, none⟩) (.inr (Nat.le_refl _)) (.string ⟨#[]⟩))
  revert hhm hMm
  generalize ((((((((((w5.alloc (.cells #[.int .u8 0, .int .i64 0, .int .i64 0, .int .i64 0, .int .i64 0, .slice none 0 0, .string ⟨#[]⟩, .bool false, .string ⟨#[]⟩] 42)).setCell ⟨w5.heap.size, 0, none⟩ (.int .u8 4)).setCell ⟨w5.heap.size, 1, none⟩ (.int .i64 0)).setCell ⟨w5.heap.size, 2, none⟩ (.int .i64 1)).setCell ⟨w5.heap.size, 3, none⟩ (.int .i64 2)).setCell ⟨w5.heap.size, 4, none⟩ (.int .i64 0)).setCell ⟨w5.heap.size, 5, none⟩ sv).setCell ⟨w5.heap.size, 6, none⟩ (.string ⟨#[]⟩)).setCell ⟨w5.heap.size, 7, none⟩ (.bool false)).setCell ⟨w5.heap.size, 8, none⟩ (.string ⟨#[]⟩)) = w6
  generalize w5.heap.size = bm
  intro hhm hMm
  refine ⟨fok52, tParts_cps B4 (by unfold maxLen; decide) _ _ (fun h => absurd alc h) (fun _ pv w7 hpo hM7 => .inl ⟨_, rfl, hold_ops okT (rs := [.tmp 0]) rfl ?_⟩)⟩
  obtain ⟨pa, pc, rfl⟩ := (Rd.own hpo).slice
  rw [alp]
  have hM67 := hMm.trans hM7 (by simp)
  have c7 := fun o => cellOf (o := o) (hM67.get hh5 (by simp))
  have d7 := fun o => cellOf (o := o) (hM7.get hhm (by simp))
  have hrd7 := hrd.mod hM67 (by simp)
  have hM07 := hM05.trans hM67 (by simp)
  simp (config := { maxSteps := 1000000 }) (disch := first | omega | (simp only [sizeAlloc, sizeDrew, sizeSet, sizePut] <;> omega) | fail) only [GS1, GS2, GS3, GS4, GS5, GS6, GS7, GS8, GS9, GS10, GS11, TT_eq, TTl, Nat.reduceAdd, Nat.reduceMul, Nat.reduceSub, Nat.reduceDiv, Nat.reduceMod, Nat.reducePow, Nat.reduceEqDiff, ↓reduceIte, reduceCtorEq, true_and, and_true, and_self, false_and, and_false, Int.reduceToNat, Int.reduceAdd, Int.reduceSub, Int.reduceMul, cond_true, cond_false, List.toList_toArray, Option.map_some, Option.map_none, Option.some.injEq, List.cons_append, List.nil_append, List.length_cons, List.length_nil, List.getD_cons_zero, List.getD_cons_succ, c7, d7]
  have hsm := fun w R hR => Same12_cps M4 M4 sv (.slice none 0 0) w R (by decide) (hR := hR)
  rw [decide_eq_true ((same_iff M4 M4).2 rfl)] at hsm
  unfold M4 msgV msgC at hsm
  simp only at hsm
  refine ⟨fok20, hsm _ _ (fun w8 hM8 => .inl ⟨_, rfl, hold_ops okT (rs := [.tmp 0]) rfl ?_⟩) hrd7 (rdNil _ 0)⟩
  simp (config := { maxSteps := 1000000 }) (disch := first | omega | (simp only [sizeAlloc, sizeDrew, sizeSet, sizePut] <;> omega) | fail) only [GS1, GS2, GS3, GS4, GS5, GS6, GS7, GS8, GS9, GS10, GS11, TT_eq, TTl, Nat.reduceAdd, Nat.reduceMul, Nat.reduceSub, Nat.reduceDiv, Nat.reduceMod, Nat.reducePow, Nat.reduceEqDiff, ↓reduceIte, reduceCtorEq, true_and, and_true, and_self, false_and, and_false, Int.reduceToNat, Int.reduceAdd, Int.reduceSub, Int.reduceMul, cond_true, cond_false, List.toList_toArray, Option.map_some, Option.map_none, Option.some.injEq, List.cons_append, List.nil_append, List.length_cons, List.length_nil, List.getD_cons_zero, List.getD_cons_succ]
  refine ⟨fok53, wWord_cps 4 (by decide) _ _ fun w9 hM9 => .inl ⟨_, rfl, hold_ops okT (rs := [.tmp 0]) rfl ?_⟩⟩
  unfold wordS
  simp (config := { maxSteps := 1000000 }) (disch := first | omega | (simp only [sizeAlloc, sizeDrew, sizeSet, sizePut] <;> omega) | fail) only [GS1, GS2, GS3, GS4, GS5, GS6, GS7, GS8, GS9, GS10, GS11, TT_eq, TTl, Nat.reduceAdd, Nat.reduceMul, Nat.reduceSub, Nat.reduceDiv, Nat.reduceMod, Nat.reducePow, Nat.reduceEqDiff, ↓reduceIte, reduceCtorEq, true_and, and_true, and_self, false_and, and_false, Int.reduceToNat, Int.reduceAdd, Int.reduceSub, Int.reduceMul, cond_true, cond_false, List.toList_toArray, Option.map_some, Option.map_none, Option.some.injEq, List.cons_append, List.nil_append, List.length_cons, List.length_nil, List.getD_cons_zero, List.getD_cons_succ]
  exact hR _ ((hM07.trans hM8 (by simp)).trans hM9 (by simp))
end Go.Proofs.Ytpcilobbohokcaa
