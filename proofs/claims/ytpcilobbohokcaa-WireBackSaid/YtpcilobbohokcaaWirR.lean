/-
  wire.Decode (walk).
-/
import Derived.Test.YtpcilobbohokcaaWirO
set_option linter.unusedSimpArgs false
set_option linter.unusedVariables false
namespace Go.Proofs.Ytpcilobbohokcaa
open Go Go.Wk Go.RowKit
attribute [local irreducible] go Hold
open Go.Lib
set_option maxRecDepth 20000 in
set_option maxHeartbeats 8000000 in
theorem wDec1_cps (S : List UInt8) (hS : S.length ≤ maxLen) (b p : Nat) (w : World) (hb : w.heap[b]? = some (.cells #[.string ⟨S.toArray⟩] 9 (0, 0))) (hp : w.heap[p]? = some (.cells #[.int .u8 0, .int .i64 0, .int .i64 0, .int .i64 0, .int .i64 0, .slice none 0 0, .string ⟨#[]⟩, .bool false, .string ⟨#[]⟩] 42 (0, 0))) (R : Ending → World → Prop)
    (h1 : ∀ m sv w', decO S = some m → w'.heap[p]? = some (.cells (msgC m sv).toArray 42 (0, 0)) → w'.ownsRow w.heap.size 59 2 sv m.mbs.length (m.mbs.flatMap mbC) → Mod [p] w w' → R (.returned (.tuple #[])) w') (h0 : decO S = none → ∀ w', Mod [] w w' → R (.panicked wnoneV) w') :
    Calls Try.prog 55 #[.pointer (some ⟨b, 0, none⟩), .pointer (some ⟨p, 0, none⟩)] w R := by
  refine calls_go 4000 okT Try.func55 rfl (rs := []) rfl Try.ntmps55 (args := [.pointer (some ⟨b, 0, none⟩), .pointer (some ⟨p, 0, none⟩)]) ?_
  have cb := fun o => cellOf (o := o) hb
  have hpl := (Array.getElem?_eq_some_iff.1 hp).1
  simp (config := { maxSteps := 1000000 }) (disch := first | omega | (simp only [sizeAlloc, sizeDrew, sizeSet, sizePut] <;> omega) | fail) only [GS1, GS2, GS3, GS4, GS5, GS6, GS7, GS8, GS9, GS10, GS11, TT_eq, TTl, Nat.reduceAdd, Nat.reduceMul, Nat.reduceSub, Nat.reduceDiv, Nat.reduceMod, Nat.reducePow, Nat.reduceEqDiff, ↓reduceIte, reduceCtorEq, true_and, and_true, and_self, false_and, and_false, Int.reduceToNat, Int.reduceAdd, Int.reduceSub, Int.reduceMul, cond_true, cond_false, List.toList_toArray, Option.map_some, Option.map_none, Option.some.injEq, List.cons_append, List.nil_append, List.length_cons, List.length_nil, List.getD_cons_zero, List.getD_cons_succ, cb]
  refine ⟨fok56, wDec_cps S hS _ _ (fun m sv w1 hm hown hM => .inl ⟨_, rfl, hold_ops okT (rs := []) rfl ?_⟩) (fun hm w1 hM => .inr ⟨_, rfl, hold_ex okT (rs := []) rfl ?_⟩)⟩
  · obtain ⟨mk, ⟨ma, mb, mc⟩, maud, mmbs, mbody, myes, mtag⟩ := m
    simp only at hown
    have hp1 := hM.get hp (by simp)
    have cp := fun o => cellOf (o := o) hp1
    have xp := fun o => frozenOf (o := o) hp1
    have hsv := ownsRow_one hown
    unfold msgV msgC
    simp only
    simp (config := { maxSteps := 1000000 }) (disch := first | omega | (simp only [sizeAlloc, sizeDrew, sizeSet, sizePut] <;> omega) | fail) only [GS1, GS2, GS3, GS4, GS5, GS6, GS7, GS8, GS9, GS10, GS11, TT_eq, TTl, Nat.reduceAdd, Nat.reduceMul, Nat.reduceSub, Nat.reduceDiv, Nat.reduceMod, Nat.reducePow, Nat.reduceEqDiff, ↓reduceIte, reduceCtorEq, true_and, and_true, and_self, false_and, and_false, Int.reduceToNat, Int.reduceAdd, Int.reduceSub, Int.reduceMul, cond_true, cond_false, List.toList_toArray, Option.map_some, Option.map_none, Option.some.injEq, List.cons_append, List.nil_append, List.length_cons, List.length_nil, List.getD_cons_zero, List.getD_cons_succ, cp, xp, cellsL_one hsv, hsv]
    exact h1 _ sv _ hm (st9 hp1) (ownsRow_mod (S := [p]) hown (((((((((((Mod.refl [p] w1).set (p := ⟨p, 0, none⟩) (.inl (by simp)) (.int .u8 mk)).set (p := ⟨p, 1, none⟩) (.inl (by simp)) (.int .i64 ma)).set (p := ⟨p, 2, none⟩) (.inl (by simp)) (.int .i64 mb)).set (p := ⟨p, 3, none⟩) (.inl (by simp)) (.int .i64 mc)).set (p := ⟨p, 4, none⟩) (.inl (by simp)) (.int .i64 maud)).set (p := ⟨p, 5, none⟩) (.inl (by simp)) sv).set (p := ⟨p, 6, none⟩) (.inl (by simp)) (.string ⟨mbody.toArray⟩)).set (p := ⟨p, 7, none⟩) (.inl (by simp)) (.bool myes)).set (p := ⟨p, 8, none⟩) (.inl (by simp)) (.string ⟨mtag.toArray⟩))) (by simp; omega)) (((((((((((hM.mono (by simp)).set (p := ⟨p, 0, none⟩) (.inl (by simp)) (.int .u8 mk)).set (p := ⟨p, 1, none⟩) (.inl (by simp)) (.int .i64 ma)).set (p := ⟨p, 2, none⟩) (.inl (by simp)) (.int .i64 mb)).set (p := ⟨p, 3, none⟩) (.inl (by simp)) (.int .i64 mc)).set (p := ⟨p, 4, none⟩) (.inl (by simp)) (.int .i64 maud)).set (p := ⟨p, 5, none⟩) (.inl (by simp)) sv).set (p := ⟨p, 6, none⟩) (.inl (by simp)) (.string ⟨mbody.toArray⟩)).set (p := ⟨p, 7, none⟩) (.inl (by simp)) (.bool myes)).set (p := ⟨p, 8, none⟩) (.inl (by simp)) (.string ⟨mtag.toArray⟩)))
  · simp (config := { maxSteps := 1000000 }) (disch := first | omega | (simp only [sizeAlloc, sizeDrew, sizeSet, sizePut] <;> omega) | fail) only [GS1, GS2, GS3, GS4, GS5, GS6, GS7, GS8, GS9, GS10, GS11, TT_eq, TTl, Nat.reduceAdd, Nat.reduceMul, Nat.reduceSub, Nat.reduceDiv, Nat.reduceMod, Nat.reducePow, Nat.reduceEqDiff, ↓reduceIte, reduceCtorEq, true_and, and_true, and_self, false_and, and_false, Int.reduceToNat, Int.reduceAdd, Int.reduceSub, Int.reduceMul, cond_true, cond_false, List.toList_toArray, Option.map_some, Option.map_none, Option.some.injEq, List.cons_append, List.nil_append, List.length_cons, List.length_nil, List.getD_cons_zero, List.getD_cons_succ]
    exact h0 hm _ hM
def msgZ : Value := .agg #[.int .u8 0, .int .i64 0, .int .i64 0, .int .i64 0, .int .i64 0, .slice none 0 0, .string ⟨#[]⟩, .bool false, .string ⟨#[]⟩]
set_option maxRecDepth 20000 in
set_option maxHeartbeats 8000000 in
theorem wDecode_cps (S : List UInt8) (hS : S.length ≤ maxLen) (w : World) (R : Ending → World → Prop)
    (h1 : ∀ m sv w', decO S = some m → w'.ownsRow w.heap.size 59 2 sv m.mbs.length (m.mbs.flatMap mbC) → Mod [] w w' → R (.returned (.tuple #[msgV m sv, .int .i64 0])) w') (h0 : decO S = none → ∀ w', Mod [] w w' → R (.returned (.tuple #[msgZ, .int .i64 7])) w') :
    Calls Try.prog 17 #[.string ⟨S.toArray⟩] w R := by
  refine calls_go 4000 okT Try.func17 rfl (rs := [.cell 2 42, .tmp 3]) rfl Try.ntmps17 (args := [.string ⟨S.toArray⟩]) ?_
  simp (config := { maxSteps := 1000000 }) (disch := first | omega | (simp only [sizeAlloc, sizeDrew, sizeSet, sizePut] <;> omega) | fail) only [GS1, GS2, GS3, GS4, GS5, GS6, GS7, GS8, GS9, GS10, GS11, TT_eq, TTl, Nat.reduceAdd, Nat.reduceMul, Nat.reduceSub, Nat.reduceDiv, Nat.reduceMod, Nat.reducePow, Nat.reduceEqDiff, ↓reduceIte, reduceCtorEq, true_and, and_true, and_self, false_and, and_false, Int.reduceToNat, Int.reduceAdd, Int.reduceSub, Int.reduceMul, cond_true, cond_false, List.toList_toArray, Option.map_some, Option.map_none, Option.some.injEq, List.cons_append, List.nil_append, List.length_cons, List.length_nil, List.getD_cons_zero, List.getD_cons_succ]
  have hb := heapAlloc (o' := .cells #[.int .u8 0, .int .i64 0, .int .i64 0, .int .i64 0, .int .i64 0, .slice none 0 0, .string ⟨#[]⟩, .bool false, .string ⟨#[]⟩] 42) (heapNew (w := w) (o := .cells #[.string ⟨S.toArray⟩] 9))
  have hp := heapNew (w := w.alloc (.cells #[.string ⟨S.toArray⟩] 9)) (o := .cells #[.int .u8 0, .int .i64 0, .int .i64 0, .int .i64 0, .int .i64 0, .slice none 0 0, .string ⟨#[]⟩, .bool false, .string ⟨#[]⟩] 42)
  have hM0 := ((Mod.refl [] w).alloc (.cells #[.string ⟨S.toArray⟩] 9)).alloc (.cells #[.int .u8 0, .int .i64 0, .int .i64 0, .int .i64 0, .int .i64 0, .slice none 0 0, .string ⟨#[]⟩, .bool false, .string ⟨#[]⟩] 42)
  rw [sizeAlloc] at hp
  generalize hW : (w.alloc (.cells #[.string ⟨S.toArray⟩] 9)).alloc (.cells #[.int .u8 0, .int .i64 0, .int .i64 0, .int .i64 0, .int .i64 0, .slice none 0 0, .string ⟨#[]⟩, .bool false, .string ⟨#[]⟩] 42) = W at hb hp hM0 ⊢
  generalize hn : w.heap.size = n at *
  have hpl := (Array.getElem?_eq_some_iff.1 hp).1
  have hb2 := heapAlloc (o' := .cells #[.bool false] 4) hb
  have hp2 := heapAlloc (o' := .cells #[.bool false] 4) hp
  have hq2 := heapNew (w := W) (o := .cells #[.bool false] 4)
  have hM2 := (Mod.refl [] W).alloc (.cells #[.bool false] 4)
  refine ⟨fok54, wTry_cps 55 #[.pointer (some ⟨n, 0, none⟩), .pointer (some ⟨n + 1, 0, none⟩)] fok55 W _ (fun w' => ∃ m sv, decO S = some m ∧ w'.heap[n + 1]? = some (.cells (msgC m sv).toArray 42 (0, 0)) ∧ w'.ownsRow (W.heap.size + 1) 59 2 sv m.mbs.length (m.mbs.flatMap mbC) ∧ Mod [] w w') (fun w' => decO S = none ∧ w'.heap[n + 1]? = some (.cells #[.int .u8 0, .int .i64 0, .int .i64 0, .int .i64 0, .int .i64 0, .slice none 0 0, .string ⟨#[]⟩, .bool false, .string ⟨#[]⟩] 42 (0, 0)) ∧ Mod [] w w') ?_ ?_ ?_⟩
  · refine wDec1_cps S hS n (n + 1) _ hb2 hp2 _ ?_ ?_
    · intro m sv w' hm hh hown hM
      refine ⟨.inl ⟨rfl, m, sv, hm, hh, by rw [sizeAlloc] at hown; exact hown, (hM0.trans hM2 (by simp)).trans hM (fun y hy => .inr (by simp at hy; omega))⟩, hM.get hq2 (by simp; omega), ?_⟩
      have := hM.size
      rw [sizeAlloc] at this
      omega
    · intro hm w' hM
      refine ⟨.inr ⟨rfl, hm, hM.get hp2 (by simp), hM0.trans (hM2.trans hM (by simp)) (by simp)⟩, hM.get hq2 (by simp), ?_⟩
      have := hM.size
      rw [sizeAlloc] at this
      omega
  · rintro w1 w2 ⟨m, sv, hm, hh, hown, hM1⟩ hM12
    refine .inl ⟨_, rfl, hold_ops okT (rs := [.cell 2 42, .tmp 3]) rfl ?_⟩
    obtain ⟨mk, ⟨ma, mb, mc⟩, maud, mmbs, mbody, myes, mtag⟩ := m
    have hh2 := hM12.get hh (by simp; omega)
    have hs1 := hM1.size
    have hown2 := ownsRow_mod hown hM12 (by simp)
    have hM02 : Mod [] w w2 := hM1.trans hM12 (fun y hy => .inr (by simp at hy; omega))
    unfold msgC at hh2
    simp only at hh2 hown2
    have c2 := fun o => cellOf (o := o) hh2
    have x2 := fun o => frozenOf (o := o) hh2
    have hsv := ownsRow_one hown2
    simp (config := { maxSteps := 1000000 }) (disch := first | omega | (simp only [sizeAlloc, sizeDrew, sizeSet, sizePut] <;> omega) | fail) only [GS1, GS2, GS3, GS4, GS5, GS6, GS7, GS8, GS9, GS10, GS11, TT_eq, TTl, Nat.reduceAdd, Nat.reduceMul, Nat.reduceSub, Nat.reduceDiv, Nat.reduceMod, Nat.reducePow, Nat.reduceEqDiff, ↓reduceIte, reduceCtorEq, true_and, and_true, and_self, false_and, and_false, Int.reduceToNat, Int.reduceAdd, Int.reduceSub, Int.reduceMul, cond_true, cond_false, List.toList_toArray, Option.map_some, Option.map_none, Option.some.injEq, List.cons_append, List.nil_append, List.length_cons, List.length_nil, List.getD_cons_zero, List.getD_cons_succ, c2, x2, cellsL_one hsv, hsv]
    have hhE : ((((((((((w2.setCell ⟨n + 1, 0, none⟩ (.int .u8 mk)).setCell ⟨n + 1, 1, none⟩ (.int .i64 ma)).setCell ⟨n + 1, 2, none⟩ (.int .i64 mb)).setCell ⟨n + 1, 3, none⟩ (.int .i64 mc)).setCell ⟨n + 1, 4, none⟩ (.int .i64 maud)).setCell ⟨n + 1, 5, none⟩ sv).setCell ⟨n + 1, 6, none⟩ (.string ⟨mbody.toArray⟩)).setCell ⟨n + 1, 7, none⟩ (.bool myes)).setCell ⟨n + 1, 8, none⟩ (.string ⟨mtag.toArray⟩))).heap[n + 1]? = some (.cells #[.int .u8 mk, .int .i64 ma, .int .i64 mb, .int .i64 mc, .int .i64 maud, sv, .string ⟨mbody.toArray⟩, .bool myes, .string ⟨mtag.toArray⟩] 42 (0, 0)) := st9 hh2
    have hoE : ((((((((((w2.setCell ⟨n + 1, 0, none⟩ (.int .u8 mk)).setCell ⟨n + 1, 1, none⟩ (.int .i64 ma)).setCell ⟨n + 1, 2, none⟩ (.int .i64 mb)).setCell ⟨n + 1, 3, none⟩ (.int .i64 mc)).setCell ⟨n + 1, 4, none⟩ (.int .i64 maud)).setCell ⟨n + 1, 5, none⟩ sv).setCell ⟨n + 1, 6, none⟩ (.string ⟨mbody.toArray⟩)).setCell ⟨n + 1, 7, none⟩ (.bool myes)).setCell ⟨n + 1, 8, none⟩ (.string ⟨mtag.toArray⟩))).ownsRow n 59 2 sv mmbs.length (mmbs.flatMap mbC) := ownsRow_base (ownsRow_mod (S := [n + 1]) hown2 (((((((((((Mod.refl [n + 1] w2).set (p := ⟨n + 1, 0, none⟩) (.inl (by simp)) (.int .u8 mk)).set (p := ⟨n + 1, 1, none⟩) (.inl (by simp)) (.int .i64 ma)).set (p := ⟨n + 1, 2, none⟩) (.inl (by simp)) (.int .i64 mb)).set (p := ⟨n + 1, 3, none⟩) (.inl (by simp)) (.int .i64 mc)).set (p := ⟨n + 1, 4, none⟩) (.inl (by simp)) (.int .i64 maud)).set (p := ⟨n + 1, 5, none⟩) (.inl (by simp)) sv).set (p := ⟨n + 1, 6, none⟩) (.inl (by simp)) (.string ⟨mbody.toArray⟩)).set (p := ⟨n + 1, 7, none⟩) (.inl (by simp)) (.bool myes)).set (p := ⟨n + 1, 8, none⟩) (.inl (by simp)) (.string ⟨mtag.toArray⟩))) (by simp; omega)) (by omega)
    have hge : w.heap.size ≤ n + 1 := by omega
    have hME : Mod [] w ((((((((((w2.setCell ⟨n + 1, 0, none⟩ (.int .u8 mk)).setCell ⟨n + 1, 1, none⟩ (.int .i64 ma)).setCell ⟨n + 1, 2, none⟩ (.int .i64 mb)).setCell ⟨n + 1, 3, none⟩ (.int .i64 mc)).setCell ⟨n + 1, 4, none⟩ (.int .i64 maud)).setCell ⟨n + 1, 5, none⟩ sv).setCell ⟨n + 1, 6, none⟩ (.string ⟨mbody.toArray⟩)).setCell ⟨n + 1, 7, none⟩ (.bool myes)).setCell ⟨n + 1, 8, none⟩ (.string ⟨mtag.toArray⟩))) := (((((((((hM02.set (p := ⟨n + 1, 0, none⟩) (.inr hge) (.int .u8 mk)).set (p := ⟨n + 1, 1, none⟩) (.inr hge) (.int .i64 ma)).set (p := ⟨n + 1, 2, none⟩) (.inr hge) (.int .i64 mb)).set (p := ⟨n + 1, 3, none⟩) (.inr hge) (.int .i64 mc)).set (p := ⟨n + 1, 4, none⟩) (.inr hge) (.int .i64 maud)).set (p := ⟨n + 1, 5, none⟩) (.inr hge) sv).set (p := ⟨n + 1, 6, none⟩) (.inr hge) (.string ⟨mbody.toArray⟩)).set (p := ⟨n + 1, 7, none⟩) (.inr hge) (.bool myes)).set (p := ⟨n + 1, 8, none⟩) (.inr hge) (.string ⟨mtag.toArray⟩))
    revert hhE hoE hME
    generalize (((((((((w2.setCell ⟨n + 1, 0, none⟩ (.int .u8 mk)).setCell ⟨n + 1, 1, none⟩ (.int .i64 ma)).setCell ⟨n + 1, 2, none⟩ (.int .i64 mb)).setCell ⟨n + 1, 3, none⟩ (.int .i64 mc)).setCell ⟨n + 1, 4, none⟩ (.int .i64 maud)).setCell ⟨n + 1, 5, none⟩ sv).setCell ⟨n + 1, 6, none⟩ (.string ⟨mbody.toArray⟩)).setCell ⟨n + 1, 7, none⟩ (.bool myes)).setCell ⟨n + 1, 8, none⟩ (.string ⟨mtag.toArray⟩)) = wE
    intro hhE hoE hME
    have cE := fun o => cellOf (o := o) hhE
    simp (config := { maxSteps := 1000000 }) (disch := first | omega | (simp only [sizeAlloc, sizeDrew, sizeSet, sizePut] <;> omega) | fail) only [GS1, GS2, GS3, GS4, GS5, GS6, GS7, GS8, GS9, GS10, GS11, TT_eq, TTl, Nat.reduceAdd, Nat.reduceMul, Nat.reduceSub, Nat.reduceDiv, Nat.reduceMod, Nat.reducePow, Nat.reduceEqDiff, ↓reduceIte, reduceCtorEq, true_and, and_true, and_self, false_and, and_false, Int.reduceToNat, Int.reduceAdd, Int.reduceSub, Int.reduceMul, cond_true, cond_false, List.toList_toArray, Option.map_some, Option.map_none, Option.some.injEq, List.cons_append, List.nil_append, List.length_cons, List.length_nil, List.getD_cons_zero, List.getD_cons_succ, loadW]
    exact ⟨_, cE 0, _, cE 1, _, cE 2, _, cE 3, _, cE 4, _, cE 5, _, cE 6, _, cE 7, _, cE 8, h1 _ sv _ hm hoE hME⟩
  · rintro w1 w2 ⟨hm, hh, hM1⟩ hM12
    refine .inl ⟨_, rfl, hold_ops okT (rs := [.cell 2 42, .tmp 3]) rfl ?_⟩
    have hh2 := hM12.get hh (by simp; omega)
    have c2 := fun o => cellOf (o := o) hh2
    have x2 := fun o => frozenOf (o := o) hh2
    have hM02 : Mod [] w w2 := hM1.trans hM12 (fun y hy => .inr (by simp at hy; omega))
    simp (config := { maxSteps := 1000000 }) (disch := first | omega | (simp only [sizeAlloc, sizeDrew, sizeSet, sizePut] <;> omega) | fail) only [GS1, GS2, GS3, GS4, GS5, GS6, GS7, GS8, GS9, GS10, GS11, TT_eq, TTl, Nat.reduceAdd, Nat.reduceMul, Nat.reduceSub, Nat.reduceDiv, Nat.reduceMod, Nat.reducePow, Nat.reduceEqDiff, ↓reduceIte, reduceCtorEq, true_and, and_true, and_self, false_and, and_false, Int.reduceToNat, Int.reduceAdd, Int.reduceSub, Int.reduceMul, cond_true, cond_false, List.toList_toArray, Option.map_some, Option.map_none, Option.some.injEq, List.cons_append, List.nil_append, List.length_cons, List.length_nil, List.getD_cons_zero, List.getD_cons_succ, c2, x2]
    have hhE : ((((((((((w2.setCell ⟨n + 1, 0, none⟩ (.int .u8 0)).setCell ⟨n + 1, 1, none⟩ (.int .i64 0)).setCell ⟨n + 1, 2, none⟩ (.int .i64 0)).setCell ⟨n + 1, 3, none⟩ (.int .i64 0)).setCell ⟨n + 1, 4, none⟩ (.int .i64 0)).setCell ⟨n + 1, 5, none⟩ (.slice none 0 0)).setCell ⟨n + 1, 6, none⟩ (.string ⟨#[]⟩)).setCell ⟨n + 1, 7, none⟩ (.bool false)).setCell ⟨n + 1, 8, none⟩ (.string ⟨#[]⟩))).heap[n + 1]? = some (.cells #[.int .u8 0, .int .i64 0, .int .i64 0, .int .i64 0, .int .i64 0, .slice none 0 0, .string ⟨#[]⟩, .bool false, .string ⟨#[]⟩] 42 (0, 0)) := st9 hh2
    have hge : w.heap.size ≤ n + 1 := by omega
    have hME : Mod [] w ((((((((((w2.setCell ⟨n + 1, 0, none⟩ (.int .u8 0)).setCell ⟨n + 1, 1, none⟩ (.int .i64 0)).setCell ⟨n + 1, 2, none⟩ (.int .i64 0)).setCell ⟨n + 1, 3, none⟩ (.int .i64 0)).setCell ⟨n + 1, 4, none⟩ (.int .i64 0)).setCell ⟨n + 1, 5, none⟩ (.slice none 0 0)).setCell ⟨n + 1, 6, none⟩ (.string ⟨#[]⟩)).setCell ⟨n + 1, 7, none⟩ (.bool false)).setCell ⟨n + 1, 8, none⟩ (.string ⟨#[]⟩))) := (((((((((hM02.set (p := ⟨n + 1, 0, none⟩) (.inr hge) (.int .u8 0)).set (p := ⟨n + 1, 1, none⟩) (.inr hge) (.int .i64 0)).set (p := ⟨n + 1, 2, none⟩) (.inr hge) (.int .i64 0)).set (p := ⟨n + 1, 3, none⟩) (.inr hge) (.int .i64 0)).set (p := ⟨n + 1, 4, none⟩) (.inr hge) (.int .i64 0)).set (p := ⟨n + 1, 5, none⟩) (.inr hge) (.slice none 0 0)).set (p := ⟨n + 1, 6, none⟩) (.inr hge) (.string ⟨#[]⟩)).set (p := ⟨n + 1, 7, none⟩) (.inr hge) (.bool false)).set (p := ⟨n + 1, 8, none⟩) (.inr hge) (.string ⟨#[]⟩))
    revert hhE hME
    generalize (((((((((w2.setCell ⟨n + 1, 0, none⟩ (.int .u8 0)).setCell ⟨n + 1, 1, none⟩ (.int .i64 0)).setCell ⟨n + 1, 2, none⟩ (.int .i64 0)).setCell ⟨n + 1, 3, none⟩ (.int .i64 0)).setCell ⟨n + 1, 4, none⟩ (.int .i64 0)).setCell ⟨n + 1, 5, none⟩ (.slice none 0 0)).setCell ⟨n + 1, 6, none⟩ (.string ⟨#[]⟩)).setCell ⟨n + 1, 7, none⟩ (.bool false)).setCell ⟨n + 1, 8, none⟩ (.string ⟨#[]⟩)) = wE
    intro hhE hME
    have cE := fun o => cellOf (o := o) hhE
    simp (config := { maxSteps := 1000000 }) (disch := first | omega | (simp only [sizeAlloc, sizeDrew, sizeSet, sizePut] <;> omega) | fail) only [GS1, GS2, GS3, GS4, GS5, GS6, GS7, GS8, GS9, GS10, GS11, TT_eq, TTl, Nat.reduceAdd, Nat.reduceMul, Nat.reduceSub, Nat.reduceDiv, Nat.reduceMod, Nat.reducePow, Nat.reduceEqDiff, ↓reduceIte, reduceCtorEq, true_and, and_true, and_self, false_and, and_false, Int.reduceToNat, Int.reduceAdd, Int.reduceSub, Int.reduceMul, cond_true, cond_false, List.toList_toArray, Option.map_some, Option.map_none, Option.some.injEq, List.cons_append, List.nil_append, List.length_cons, List.length_nil, List.getD_cons_zero, List.getD_cons_succ, loadW]
    exact ⟨_, cE 0, _, cE 1, _, cE 2, _, cE 3, _, cE 4, _, cE 5, _, cE 6, _, cE 7, _, cE 8, h0 hm _ hME⟩
end Go.Proofs.Ytpcilobbohokcaa
