/-
  The reference's Word and Bare (walks).
-/
import Derived.Test.YtpcilobbohokcaaGreatPbgW6
import Derived.Test.YtpcilobbohokcaaGreatPbgW5
set_option linter.unusedSimpArgs false
set_option linter.unusedVariables false
set_option maxRecDepth 20000
namespace Go.Proofs.YtpcilobbohokcaaGreat
open Go Go.Wk Go.RowKit
attribute [local irreducible] go Hold
open Go.Lib
set_option maxHeartbeats 2000000 in
theorem rWord_cps (k : Nat) (hk : k < 256) (w : World) (R : Ending → World → Prop) (hR : R (.returned (.string ⟨(wordS k).toArray⟩)) w) : Calls Tryz.prog 23 #[.int .u8 k] w R := by
  refine calls_go 4000 okT Tryz.func23 rfl (rs := [.tmp 2]) rfl Tryz.ntmps23 (args := [.int .u8 k]) ?_
  by_cases h1 : (k : Int) = 1
  · have hw : wordS k = [112, 114, 101, 112, 97, 114, 101] := by rw [show k = 1 by omega]; rfl
    rw [hw] at hR
    simp (maxSteps := 1000000) (disch := first | omega | (simp only [sizeAlloc, sizeDrew, sizeSet, sizePut] <;> omega) | fail) only [GS, TT_eq, TTl, Nat.reduceAdd, Nat.reduceMul, Nat.reduceSub, Nat.reduceDiv, Nat.reduceMod, Nat.reducePow, Nat.reduceEqDiff, ↓reduceIte, reduceCtorEq, Int.reduceToNat, Int.reduceAdd, Int.reduceSub, Int.reduceMul, h1]
    exact hR
  by_cases h2 : (k : Int) = 2
  · have hw : wordS k = [118, 111, 116, 101] := by rw [show k = 2 by omega]; rfl
    rw [hw] at hR
    simp (maxSteps := 1000000) (disch := first | omega | (simp only [sizeAlloc, sizeDrew, sizeSet, sizePut] <;> omega) | fail) only [GS, TT_eq, TTl, Nat.reduceAdd, Nat.reduceMul, Nat.reduceSub, Nat.reduceDiv, Nat.reduceMod, Nat.reducePow, Nat.reduceEqDiff, ↓reduceIte, reduceCtorEq, Int.reduceToNat, Int.reduceAdd, Int.reduceSub, Int.reduceMul, h1, h2]
    exact hR
  by_cases h3 : (k : Int) = 3
  · have hw : wordS k = [100, 101, 99, 105, 115, 105, 111, 110] := by rw [show k = 3 by omega]; rfl
    rw [hw] at hR
    simp (maxSteps := 1000000) (disch := first | omega | (simp only [sizeAlloc, sizeDrew, sizeSet, sizePut] <;> omega) | fail) only [GS, TT_eq, TTl, Nat.reduceAdd, Nat.reduceMul, Nat.reduceSub, Nat.reduceDiv, Nat.reduceMod, Nat.reducePow, Nat.reduceEqDiff, ↓reduceIte, reduceCtorEq, Int.reduceToNat, Int.reduceAdd, Int.reduceSub, Int.reduceMul, h1, h2, h3]
    exact hR
  by_cases h4 : (k : Int) = 4
  · have hw : wordS k = [97, 99, 107] := by rw [show k = 4 by omega]; rfl
    rw [hw] at hR
    simp (maxSteps := 1000000) (disch := first | omega | (simp only [sizeAlloc, sizeDrew, sizeSet, sizePut] <;> omega) | fail) only [GS, TT_eq, TTl, Nat.reduceAdd, Nat.reduceMul, Nat.reduceSub, Nat.reduceDiv, Nat.reduceMod, Nat.reducePow, Nat.reduceEqDiff, ↓reduceIte, reduceCtorEq, Int.reduceToNat, Int.reduceAdd, Int.reduceSub, Int.reduceMul, h1, h2, h3, h4]
    exact hR
  by_cases h5 : (k : Int) = 5
  · have hw : wordS k = [113, 117, 101, 114, 121] := by rw [show k = 5 by omega]; rfl
    rw [hw] at hR
    simp (maxSteps := 1000000) (disch := first | omega | (simp only [sizeAlloc, sizeDrew, sizeSet, sizePut] <;> omega) | fail) only [GS, TT_eq, TTl, Nat.reduceAdd, Nat.reduceMul, Nat.reduceSub, Nat.reduceDiv, Nat.reduceMod, Nat.reducePow, Nat.reduceEqDiff, ↓reduceIte, reduceCtorEq, Int.reduceToNat, Int.reduceAdd, Int.reduceSub, Int.reduceMul, h1, h2, h3, h4, h5]
    exact hR
  by_cases h6 : (k : Int) = 6
  · have hw : wordS k = [104, 101, 108, 108, 111] := by rw [show k = 6 by omega]; rfl
    rw [hw] at hR
    simp (maxSteps := 1000000) (disch := first | omega | (simp only [sizeAlloc, sizeDrew, sizeSet, sizePut] <;> omega) | fail) only [GS, TT_eq, TTl, Nat.reduceAdd, Nat.reduceMul, Nat.reduceSub, Nat.reduceDiv, Nat.reduceMod, Nat.reducePow, Nat.reduceEqDiff, ↓reduceIte, reduceCtorEq, Int.reduceToNat, Int.reduceAdd, Int.reduceSub, Int.reduceMul, h1, h2, h3, h4, h5, h6]
    exact hR
  have hw : wordS k = [] := by unfold wordS; split <;> first | omega | rfl
  rw [hw] at hR
  simp (maxSteps := 1000000) (disch := first | omega | (simp only [sizeAlloc, sizeDrew, sizeSet, sizePut] <;> omega) | fail) only [GS, TT_eq, TTl, Nat.reduceAdd, Nat.reduceMul, Nat.reduceSub, Nat.reduceDiv, Nat.reduceMod, Nat.reducePow, Nat.reduceEqDiff, ↓reduceIte, reduceCtorEq, Int.reduceToNat, Int.reduceAdd, Int.reduceSub, Int.reduceMul, h1, h2, h3, h4, h5, h6]
  exact hR
/-- Of a message what its kind names. -/
def bareM (m : Msg) : Msg :=
  if m.k = 1 then ⟨m.k, m.tx, m.aud, m.mbs, m.body, false, []⟩
  else if m.k = 2 then ⟨m.k, m.tx, 0, [], [], m.yes, if m.yes = true then m.tag else []⟩
  else if m.k = 3 then ⟨m.k, m.tx, 0, [], [], m.yes, []⟩
  else if m.k = 6 then ⟨m.k, (0, 0, 0), 0, [], [], false, []⟩
  else ⟨m.k, m.tx, 0, [], [], false, []⟩
def bareS (m : Msg) (sa : Value) : Value := if m.k = 1 then sa else .slice none 0 0
theorem load9 {w : World} {p : Nat} {K : Value → World → Prop} {x0 x1 x2 x3 x4 x5 x6 x7 x8 : Value} (hh : w.heap[p]? = some (.cells #[x0, x1, x2, x3, x4, x5, x6, x7, x8] 35 (0, 0))) (hK : K (.agg #[x0, x1, x2, x3, x4, x5, x6, x7, x8]) w) : loadW TT 35 (.pointer (some ⟨p, 0, none⟩)) w K := by
  have c := fun o => cellOf (o := o) hh
  exact ⟨_, c 0, _, c 1, _, c 2, _, c 3, _, c 4, _, c 5, _, c 6, _, c 7, _, c 8, hK⟩
theorem three {w W : World} {A Z Y : Obj} (h : ((w.alloc A).alloc Z).alloc Y = W) : W.heap[w.heap.size]? = some A ∧ W.heap[w.heap.size + 1]? = some Z ∧ W.heap[w.heap.size + 1 + 1]? = some Y ∧ Mod [] w W := by
  subst h
  refine ⟨heapAlloc (o' := Y) (heapAlloc (o' := Z) (heapNew (w := w) (o := A))), ?_, ?_, (((Mod.refl [] w).alloc A).alloc Z).alloc Y⟩
  · have h1 := heapNew (w := w.alloc A) (o := Z)
    rw [sizeAlloc] at h1
    exact heapAlloc (o' := Y) h1
  · have h1 := heapNew (w := (w.alloc A).alloc Z) (o := Y)
    rw [sizeAlloc, sizeAlloc] at h1
    exact h1
theorem setNe9 {w : World} {p q : Nat} {o : Obj} {x0 x1 x2 x3 x4 x5 x6 x7 x8 : Value} (h : w.heap[q]? = some o) (hn : q ≠ p) : (((((((((w.setCell ⟨p, 0, none⟩ x0).setCell ⟨p, 1, none⟩ x1).setCell ⟨p, 2, none⟩ x2).setCell ⟨p, 3, none⟩ x3).setCell ⟨p, 4, none⟩ x4).setCell ⟨p, 5, none⟩ x5).setCell ⟨p, 6, none⟩ x6).setCell ⟨p, 7, none⟩ x7).setCell ⟨p, 8, none⟩ x8).heap[q]? = some o :=
  heapSetNe (heapSetNe (heapSetNe (heapSetNe (heapSetNe (heapSetNe (heapSetNe (heapSetNe (heapSetNe h hn) hn) hn) hn) hn) hn) hn) hn) hn
theorem modSet9 {v w : World} {p : Nat} {x0 x1 x2 x3 x4 x5 x6 x7 x8 : Value} (h : Mod [] v w) (hn : v.heap.size ≤ p) : Mod [] v (((((((((w.setCell ⟨p, 0, none⟩ x0).setCell ⟨p, 1, none⟩ x1).setCell ⟨p, 2, none⟩ x2).setCell ⟨p, 3, none⟩ x3).setCell ⟨p, 4, none⟩ x4).setCell ⟨p, 5, none⟩ x5).setCell ⟨p, 6, none⟩ x6).setCell ⟨p, 7, none⟩ x7).setCell ⟨p, 8, none⟩ x8) :=
  ((((((((h.set (p := ⟨p, 0, none⟩) (.inr hn) x0).set (p := ⟨p, 1, none⟩) (.inr hn) x1).set (p := ⟨p, 2, none⟩) (.inr hn) x2).set (p := ⟨p, 3, none⟩) (.inr hn) x3).set (p := ⟨p, 4, none⟩) (.inr hn) x4).set (p := ⟨p, 5, none⟩) (.inr hn) x5).set (p := ⟨p, 6, none⟩) (.inr hn) x6).set (p := ⟨p, 7, none⟩) (.inr hn) x7).set (p := ⟨p, 8, none⟩) (.inr hn) x8
set_option maxRecDepth 20000 in
set_option maxHeartbeats 4000000 in
theorem rBare_cps (m : Msg) (sa : Value) (w : World) (os : sa.oneCell' = true) (R : Ending → World → Prop) (hR : ∀ w', Mod [] w w' → R (.returned (msgV (bareM m) (bareS m sa))) w') : Calls Tryz.prog 91 #[msgV m sa] w R := by
  obtain ⟨k, ⟨a, b, c⟩, aud, mbs, body, yes, tag⟩ := m
  unfold bareM bareS at hR
  unfold msgV msgC at hR ⊢
  simp only at hR
  show Calls Tryz.prog 91 #[.agg #[.int .u8 k, .int .i64 a, .int .i64 b, .int .i64 c, .int .i64 aud, sa, .string ⟨body.toArray⟩, .bool yes, .string ⟨tag.toArray⟩]] w R
  refine calls_go 4000 okT Tryz.func91 rfl (rs := [.cell 2 35]) rfl Tryz.ntmps91 (args := [.agg #[.int .u8 k, .int .i64 a, .int .i64 b, .int .i64 c, .int .i64 aud, sa, .string ⟨body.toArray⟩, .bool yes, .string ⟨tag.toArray⟩]]) ?_
  simp (maxSteps := 1000000) (disch := first | omega | (simp only [sizeAlloc, sizeDrew, sizeSet, sizePut] <;> omega) | fail) only [GS, TT_eq, TTl, Nat.reduceAdd, Nat.reduceMul, Nat.reduceSub, Nat.reduceDiv, Nat.reduceMod, Nat.reducePow, Nat.reduceEqDiff, ↓reduceIte, reduceCtorEq, Int.reduceToNat, Int.reduceAdd, Int.reduceSub, Int.reduceMul]
  generalize hW0 : ((w.alloc (.cells #[.int .u8 k, .int .i64 a, .int .i64 b, .int .i64 c, .int .i64 aud, sa, .string ⟨body.toArray⟩, .bool yes, .string ⟨tag.toArray⟩] 35)).alloc (.cells #[.int .u8 0, .int .i64 0, .int .i64 0, .int .i64 0, .int .i64 0, .slice none 0 0, .string ⟨#[]⟩, .bool false, .string ⟨#[]⟩] 35)).alloc (.cells #[.int .u8 0, .int .i64 0, .int .i64 0, .int .i64 0, .int .i64 0, .slice none 0 0, .string ⟨#[]⟩, .bool false, .string ⟨#[]⟩] 35) = W0
  obtain ⟨a1, a2, a3, aM⟩ := three hW0
  clear hW0
  generalize hn : w.heap.size = n at *
  have hge1 : w.heap.size ≤ n + 1 := by omega
  have hge2 : w.heap.size ≤ n + 1 + 1 := by omega
  have hh1 : (((((((((W0.setCell ⟨n + 1 + 1, 0, none⟩ (.int .u8 k)).setCell ⟨n + 1 + 1, 1, none⟩ (.int .i64 a)).setCell ⟨n + 1 + 1, 2, none⟩ (.int .i64 b)).setCell ⟨n + 1 + 1, 3, none⟩ (.int .i64 c)).setCell ⟨n + 1 + 1, 4, none⟩ (.int .i64 0)).setCell ⟨n + 1 + 1, 5, none⟩ (.slice none 0 0)).setCell ⟨n + 1 + 1, 6, none⟩ (.string ⟨#[]⟩)).setCell ⟨n + 1 + 1, 7, none⟩ (.bool false)).setCell ⟨n + 1 + 1, 8, none⟩ (.string ⟨#[]⟩)).heap[n]? = some (.cells #[.int .u8 k, .int .i64 a, .int .i64 b, .int .i64 c, .int .i64 aud, sa, .string ⟨body.toArray⟩, .bool yes, .string ⟨tag.toArray⟩] 35 (0, 0)) := setNe9 a1 (by omega)
  have hh2 : (((((((((W0.setCell ⟨n + 1 + 1, 0, none⟩ (.int .u8 k)).setCell ⟨n + 1 + 1, 1, none⟩ (.int .i64 a)).setCell ⟨n + 1 + 1, 2, none⟩ (.int .i64 b)).setCell ⟨n + 1 + 1, 3, none⟩ (.int .i64 c)).setCell ⟨n + 1 + 1, 4, none⟩ (.int .i64 0)).setCell ⟨n + 1 + 1, 5, none⟩ (.slice none 0 0)).setCell ⟨n + 1 + 1, 6, none⟩ (.string ⟨#[]⟩)).setCell ⟨n + 1 + 1, 7, none⟩ (.bool false)).setCell ⟨n + 1 + 1, 8, none⟩ (.string ⟨#[]⟩)).heap[n + 1]? = some (.cells #[.int .u8 0, .int .i64 0, .int .i64 0, .int .i64 0, .int .i64 0, .slice none 0 0, .string ⟨#[]⟩, .bool false, .string ⟨#[]⟩] 35 (0, 0)) := setNe9 a2 (by omega)
  have hh3 : (((((((((W0.setCell ⟨n + 1 + 1, 0, none⟩ (.int .u8 k)).setCell ⟨n + 1 + 1, 1, none⟩ (.int .i64 a)).setCell ⟨n + 1 + 1, 2, none⟩ (.int .i64 b)).setCell ⟨n + 1 + 1, 3, none⟩ (.int .i64 c)).setCell ⟨n + 1 + 1, 4, none⟩ (.int .i64 0)).setCell ⟨n + 1 + 1, 5, none⟩ (.slice none 0 0)).setCell ⟨n + 1 + 1, 6, none⟩ (.string ⟨#[]⟩)).setCell ⟨n + 1 + 1, 7, none⟩ (.bool false)).setCell ⟨n + 1 + 1, 8, none⟩ (.string ⟨#[]⟩)).heap[n + 1 + 1]? = some (.cells #[.int .u8 k, .int .i64 a, .int .i64 b, .int .i64 c, .int .i64 0, .slice none 0 0, .string ⟨#[]⟩, .bool false, .string ⟨#[]⟩] 35 (0, 0)) := st9 a3
  have hMW := modSet9 (x0 := .int .u8 k) (x1 := .int .i64 a) (x2 := .int .i64 b) (x3 := .int .i64 c) (x4 := .int .i64 0) (x5 := .slice none 0 0) (x6 := .string ⟨#[]⟩) (x7 := .bool false) (x8 := .string ⟨#[]⟩) aM hge2
  clear a1 a2 a3 aM
  revert hh1 hh2 hh3 hMW
  generalize (((((((((W0.setCell ⟨n + 1 + 1, 0, none⟩ (.int .u8 k)).setCell ⟨n + 1 + 1, 1, none⟩ (.int .i64 a)).setCell ⟨n + 1 + 1, 2, none⟩ (.int .i64 b)).setCell ⟨n + 1 + 1, 3, none⟩ (.int .i64 c)).setCell ⟨n + 1 + 1, 4, none⟩ (.int .i64 0)).setCell ⟨n + 1 + 1, 5, none⟩ (.slice none 0 0)).setCell ⟨n + 1 + 1, 6, none⟩ (.string ⟨#[]⟩)).setCell ⟨n + 1 + 1, 7, none⟩ (.bool false)).setCell ⟨n + 1 + 1, 8, none⟩ (.string ⟨#[]⟩)) = W
  intro hh1 hh2 hh3 hMW
  have c1 := fun o => cellOf (o := o) hh1
  have c3 := fun o => cellOf (o := o) hh3
  have x2 := fun o => frozenOf (o := o) hh2
  have c2 := fun o => cellOf (o := o) hh2
  have x3 := fun o => frozenOf (o := o) hh3
  by_cases h1 : k = 1
  · subst h1
    simp only [if_true] at hR
    simp (maxSteps := 1000000) (disch := first | omega | (simp only [sizeAlloc, sizeDrew, sizeSet, sizePut] <;> omega) | fail) only [GS, TT_eq, TTl, Nat.reduceAdd, Nat.reduceMul, Nat.reduceSub, Nat.reduceDiv, Nat.reduceMod, Nat.reducePow, Nat.reduceEqDiff, ↓reduceIte, reduceCtorEq, Int.reduceToNat, Int.reduceAdd, Int.reduceSub, Int.reduceMul, c1, c2, c3, x2, x3, os, cellsL_one os]
    refine load9 (st9 (w := (((W.setCell ⟨n + 1 + 1, 4, none⟩ (.int .i64 aud)).setCell ⟨n + 1 + 1, 5, none⟩ sa).setCell ⟨n + 1 + 1, 6, none⟩ (.string ⟨body.toArray⟩))) (heapSetNe (heapSetNe (heapSetNe hh2 (by omega)) (by omega)) (by omega))) ?_
    exact hR _ (modSet9 (((hMW.set (p := ⟨n + 1 + 1, 4, none⟩) (.inr hge2) (.int .i64 aud)).set (p := ⟨n + 1 + 1, 5, none⟩) (.inr hge2) sa).set (p := ⟨n + 1 + 1, 6, none⟩) (.inr hge2) (.string ⟨body.toArray⟩)) hge1)
  by_cases h2 : k = 2
  · subst h2
    rw [if_neg (by decide)] at hR
    simp only [if_true] at hR
    cases yes
    · simp only [Bool.false_eq_true, if_false] at hR
      simp (maxSteps := 1000000) (disch := first | omega | (simp only [sizeAlloc, sizeDrew, sizeSet, sizePut] <;> omega) | fail) only [GS, TT_eq, TTl, Nat.reduceAdd, Nat.reduceMul, Nat.reduceSub, Nat.reduceDiv, Nat.reduceMod, Nat.reducePow, Nat.reduceEqDiff, ↓reduceIte, reduceCtorEq, Int.reduceToNat, Int.reduceAdd, Int.reduceSub, Int.reduceMul, c1, c2, c3, x2, x3, os, cellsL_one os]
      refine load9 (st9 (w := (W.setCell ⟨n + 1 + 1, 7, none⟩ (.bool false))) (heapSetNe hh2 (by omega))) ?_
      exact hR _ (modSet9 (hMW.set (p := ⟨n + 1 + 1, 7, none⟩) (.inr hge2) (.bool false)) hge1)
    · simp only [if_true] at hR
      simp (maxSteps := 1000000) (disch := first | omega | (simp only [sizeAlloc, sizeDrew, sizeSet, sizePut] <;> omega) | fail) only [GS, TT_eq, TTl, Nat.reduceAdd, Nat.reduceMul, Nat.reduceSub, Nat.reduceDiv, Nat.reduceMod, Nat.reducePow, Nat.reduceEqDiff, ↓reduceIte, reduceCtorEq, Int.reduceToNat, Int.reduceAdd, Int.reduceSub, Int.reduceMul, c1, c2, c3, x2, x3, os, cellsL_one os]
      refine load9 (st9 (w := ((W.setCell ⟨n + 1 + 1, 7, none⟩ (.bool true)).setCell ⟨n + 1 + 1, 8, none⟩ (.string ⟨tag.toArray⟩))) (heapSetNe (heapSetNe hh2 (by omega)) (by omega))) ?_
      exact hR _ (modSet9 ((hMW.set (p := ⟨n + 1 + 1, 7, none⟩) (.inr hge2) (.bool true)).set (p := ⟨n + 1 + 1, 8, none⟩) (.inr hge2) (.string ⟨tag.toArray⟩)) hge1)
  by_cases h3 : k = 3
  · subst h3
    simp only [if_neg (show ¬ (3 : Int) = 1 by decide), if_neg (show ¬ (3 : Int) = 2 by decide), if_true] at hR
    simp (maxSteps := 1000000) (disch := first | omega | (simp only [sizeAlloc, sizeDrew, sizeSet, sizePut] <;> omega) | fail) only [GS, TT_eq, TTl, Nat.reduceAdd, Nat.reduceMul, Nat.reduceSub, Nat.reduceDiv, Nat.reduceMod, Nat.reducePow, Nat.reduceEqDiff, ↓reduceIte, reduceCtorEq, Int.reduceToNat, Int.reduceAdd, Int.reduceSub, Int.reduceMul, c1, c2, c3, x2, x3, os, cellsL_one os]
    refine load9 (st9 (w := (W.setCell ⟨n + 1 + 1, 7, none⟩ (.bool yes))) (heapSetNe hh2 (by omega))) ?_
    exact hR _ (modSet9 (hMW.set (p := ⟨n + 1 + 1, 7, none⟩) (.inr hge2) (.bool yes)) hge1)
  by_cases h6 : k = 6
  · subst h6
    simp only [if_neg (show ¬ (6 : Int) = 1 by decide), if_neg (show ¬ (6 : Int) = 2 by decide), if_neg (show ¬ (6 : Int) = 3 by decide), if_true] at hR
    simp (maxSteps := 1000000) (disch := first | omega | (simp only [sizeAlloc, sizeDrew, sizeSet, sizePut] <;> omega) | fail) only [GS, TT_eq, TTl, Nat.reduceAdd, Nat.reduceMul, Nat.reduceSub, Nat.reduceDiv, Nat.reduceMod, Nat.reducePow, Nat.reduceEqDiff, ↓reduceIte, reduceCtorEq, Int.reduceToNat, Int.reduceAdd, Int.reduceSub, Int.reduceMul, c1, c2, c3, x2, x3, os, cellsL_one os]
    refine load9 (st9 (w := (((W.setCell ⟨n + 1 + 1, 1, none⟩ (.int .i64 0)).setCell ⟨n + 1 + 1, 2, none⟩ (.int .i64 0)).setCell ⟨n + 1 + 1, 3, none⟩ (.int .i64 0))) (heapSetNe (heapSetNe (heapSetNe hh2 (by omega)) (by omega)) (by omega))) ?_
    exact hR _ (modSet9 (((hMW.set (p := ⟨n + 1 + 1, 1, none⟩) (.inr hge2) (.int .i64 0)).set (p := ⟨n + 1 + 1, 2, none⟩) (.inr hge2) (.int .i64 0)).set (p := ⟨n + 1 + 1, 3, none⟩) (.inr hge2) (.int .i64 0)) hge1)
  simp only [if_neg h1, if_neg h2, if_neg h3, if_neg h6] at hR
  simp (maxSteps := 1000000) (disch := first | omega | (simp only [sizeAlloc, sizeDrew, sizeSet, sizePut] <;> omega) | fail) only [GS, TT_eq, TTl, Nat.reduceAdd, Nat.reduceMul, Nat.reduceSub, Nat.reduceDiv, Nat.reduceMod, Nat.reducePow, Nat.reduceEqDiff, ↓reduceIte, reduceCtorEq, Int.reduceToNat, Int.reduceAdd, Int.reduceSub, Int.reduceMul, c1, c2, c3, x2, x3, os, cellsL_one os, h1, h2, h3, h6]
  refine load9 (st9 (w := W) hh2) ?_
  exact hR _ (modSet9 hMW hge1)
end Go.Proofs.YtpcilobbohokcaaGreat
