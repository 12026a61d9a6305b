/-
  wire.plain, wire.kinds (walks). wire: the small functions over a message (walks). wire: the forms' checks (walks). wire: the forms' readers of votes and decisions (walks). wire: the forms' writers (walks). wire.idle (walk). wire: the prepare's writer (walk). wire: the prepare's reader (walk).
-/
import Derived.Test.YtpcilobbohokcaaPkpW2
set_option linter.unusedSimpArgs false
set_option linter.unusedVariables false
namespace Go.Proofs.Ytpcilobbohokcaa
open Go Go.Wk Go.RowKit
attribute [local irreducible] go Hold
open Go.Lib
/-- A kind of message: its word, how many fields at least and at most, and its three functions. -/
def kdV (S : List UInt8) (mn mx : Int) (a b c : Nat) : Value := .agg #[.string ⟨S.toArray⟩, .int .i64 mn, .int .i64 mx, .func (.func a) #[] #[], .func (.func b) #[] #[], .func (.func c) #[] #[]]
def plV (S : List UInt8) : Value := kdV S 0 0 121 122 123
def kindsL : List (Value × Value) := [(.int .u8 1, kdV [112, 114, 101, 112, 97, 114, 101] 3 3 97 98 99), (.int .u8 2, kdV [118, 111, 116, 101] 1 2 102 103 105), (.int .u8 3, kdV [100, 101, 99, 105, 115, 105, 111, 110] 1 1 107 108 109), (.int .u8 4, plV [97, 99, 107]), (.int .u8 5, plV [113, 117, 101, 114, 121]), (.int .u8 6, plV [104, 101, 108, 108, 111])]
set_option maxHeartbeats 4000000 in
theorem wPlain_cps (S : List UInt8) (w : World) (R : Ending → World → Prop) (hR : ∀ w', Mod [] w w' → R (.returned (plV S)) w') : Calls Try.prog 110 #[.string ⟨S.toArray⟩] w R := by
  refine calls_go 4000 okT Try.func110 rfl (rs := [.cell 2 102]) rfl Try.ntmps110 (args := [.string ⟨S.toArray⟩]) ?_
  simp (maxSteps := 1000000) (disch := first | omega | (simp only [sizeAlloc, sizeDrew, sizeSet, sizePut] <;> omega) | fail) only [GS, TT_eq, TTl, Nat.reduceAdd, Nat.reduceMul, Nat.reduceSub, Nat.reduceDiv, Nat.reduceMod, Nat.reducePow, Nat.reduceEqDiff, ↓reduceIte, reduceCtorEq, Int.reduceToNat, Int.reduceAdd, Int.reduceSub, Int.reduceMul]
  have hc := st6 (x := .string ⟨S.toArray⟩) (y := .int .i64 0) (z := .int .i64 0) (u := .func (.func 121) #[] #[]) (v := .func (.func 122) #[] #[]) (q := .func (.func 123) #[] #[]) (heapNew (w := w) (o := .cells #[.string ⟨#[]⟩, .int .i64 0, .int .i64 0, .nilFunc, .nilFunc, .nilFunc] 102))
  have hM : Mod [] w _ := (((((((Mod.refl [] w).alloc (.cells #[.string ⟨#[]⟩, .int .i64 0, .int .i64 0, .nilFunc, .nilFunc, .nilFunc] 102)).set (p := ⟨w.heap.size, 0, none⟩) (.inr (Nat.le_refl _)) (.string ⟨S.toArray⟩)).set (p := ⟨w.heap.size, 1, none⟩) (.inr (Nat.le_refl _)) (.int .i64 0)).set (p := ⟨w.heap.size, 2, none⟩) (.inr (Nat.le_refl _)) (.int .i64 0)).set (p := ⟨w.heap.size, 3, none⟩) (.inr (Nat.le_refl _)) (.func (.func 121) #[] #[])).set (p := ⟨w.heap.size, 4, none⟩) (.inr (Nat.le_refl _)) (.func (.func 122) #[] #[])).set (p := ⟨w.heap.size, 5, none⟩) (.inr (Nat.le_refl _)) (.func (.func 123) #[] #[])
  revert hc hM
  generalize (((((((w.alloc (.cells #[.string ⟨#[]⟩, .int .i64 0, .int .i64 0, .nilFunc, .nilFunc, .nilFunc] 102)).setCell ⟨w.heap.size, 0, none⟩ (.string ⟨S.toArray⟩)).setCell ⟨w.heap.size, 1, none⟩ (.int .i64 0)).setCell ⟨w.heap.size, 2, none⟩ (.int .i64 0)).setCell ⟨w.heap.size, 3, none⟩ (.func (.func 121) #[] #[])).setCell ⟨w.heap.size, 4, none⟩ (.func (.func 122) #[] #[])).setCell ⟨w.heap.size, 5, none⟩ (.func (.func 123) #[] #[])) = w2
  intro hc hM
  simp (maxSteps := 1000000) (disch := first | omega | (simp only [sizeAlloc, sizeDrew, sizeSet, sizePut] <;> omega) | fail) only [GS, TT_eq, TTl, Nat.reduceAdd, Nat.reduceMul, Nat.reduceSub, Nat.reduceDiv, Nat.reduceMod, Nat.reducePow, Nat.reduceEqDiff, ↓reduceIte, reduceCtorEq, Int.reduceToNat, Int.reduceAdd, Int.reduceSub, Int.reduceMul, loadW]
  exact ⟨_, cellOf hc, _, cellOf hc, _, cellOf hc, _, cellOf hc, _, cellOf hc, _, cellOf hc, hR _ hM⟩
set_option maxHeartbeats 4000000 in
theorem wKinds_cps (w : World) (R : Ending → World → Prop) (hR : ∀ m w', MapW w' m kindsL → w.heap.size ≤ m → Mod [] w w' → R (.returned (.map (some m))) w') : Calls Try.prog 57 #[] w R := by
  refine calls_go 4000 okT Try.func57 rfl (rs := [.tmp 0]) rfl Try.ntmps57 (args := []) ?_
  simp (maxSteps := 1000000) (disch := first | omega | (simp only [sizeAlloc, sizeDrew, sizeSet, sizePut] <;> omega) | fail) only [GS, TT_eq, TTl, Nat.reduceAdd, Nat.reduceMul, Nat.reduceSub, Nat.reduceDiv, Nat.reduceMod, Nat.reducePow, Nat.reduceEqDiff, ↓reduceIte, reduceCtorEq, Int.reduceToNat, Int.reduceAdd, Int.reduceSub, Int.reduceMul]
  refine hold_makeMapW rfl fun w0 hm hM => hold_ops okT (rs := [.tmp 0]) rfl ?_
  generalize hn : w.heap.size = n at *
  simp (maxSteps := 1000000) (disch := first | omega | (simp only [sizeAlloc, sizeDrew, sizeSet, sizePut] <;> omega) | fail) only [GS, TT_eq, TTl, Nat.reduceAdd, Nat.reduceMul, Nat.reduceSub, Nat.reduceDiv, Nat.reduceMod, Nat.reducePow, Nat.reduceEqDiff, ↓reduceIte, reduceCtorEq, Int.reduceToNat, Int.reduceAdd, Int.reduceSub, Int.reduceMul]
  refine hold_insertW okT (.inl rfl) rfl rfl rfl rfl hm rfl rfl rfl fun w10 hm hN => hold_ops okT (rs := [.tmp 0]) rfl ?_
  replace hM := hM.trans hN (fun y hy => .inr (by simp at hy; omega))
  simp (maxSteps := 1000000) (disch := first | omega | (simp only [sizeAlloc, sizeDrew, sizeSet, sizePut] <;> omega) | fail) only [GS, TT_eq, TTl, Nat.reduceAdd, Nat.reduceMul, Nat.reduceSub, Nat.reduceDiv, Nat.reduceMod, Nat.reducePow, Nat.reduceEqDiff, ↓reduceIte, reduceCtorEq, Int.reduceToNat, Int.reduceAdd, Int.reduceSub, Int.reduceMul]
  refine hold_insertW okT (.inl rfl) rfl rfl rfl rfl hm rfl rfl rfl fun w11 hm hN => hold_ops okT (rs := [.tmp 0]) rfl ?_
  replace hM := hM.trans hN (fun y hy => .inr (by simp at hy; omega))
  simp (maxSteps := 1000000) (disch := first | omega | (simp only [sizeAlloc, sizeDrew, sizeSet, sizePut] <;> omega) | fail) only [GS, TT_eq, TTl, Nat.reduceAdd, Nat.reduceMul, Nat.reduceSub, Nat.reduceDiv, Nat.reduceMod, Nat.reducePow, Nat.reduceEqDiff, ↓reduceIte, reduceCtorEq, Int.reduceToNat, Int.reduceAdd, Int.reduceSub, Int.reduceMul]
  refine hold_insertW okT (.inl rfl) rfl rfl rfl rfl hm rfl rfl rfl fun w12 hm hN => hold_ops okT (rs := [.tmp 0]) rfl ?_
  replace hM := hM.trans hN (fun y hy => .inr (by simp at hy; omega))
  simp (maxSteps := 1000000) (disch := first | omega | (simp only [sizeAlloc, sizeDrew, sizeSet, sizePut] <;> omega) | fail) only [GS, TT_eq, TTl, Nat.reduceAdd, Nat.reduceMul, Nat.reduceSub, Nat.reduceDiv, Nat.reduceMod, Nat.reducePow, Nat.reduceEqDiff, ↓reduceIte, reduceCtorEq, Int.reduceToNat, Int.reduceAdd, Int.reduceSub, Int.reduceMul]
  refine ⟨fok110, wPlain_cps [97, 99, 107] _ _ fun v3 hN => .inl ⟨_, rfl, hold_ops okT (rs := [.tmp 0]) rfl ?_⟩⟩
  replace hm := hm.mod hN (by simp)
  replace hM := hM.trans hN (by simp)
  simp (maxSteps := 1000000) (disch := first | omega | (simp only [sizeAlloc, sizeDrew, sizeSet, sizePut] <;> omega) | fail) only [GS, TT_eq, TTl, Nat.reduceAdd, Nat.reduceMul, Nat.reduceSub, Nat.reduceDiv, Nat.reduceMod, Nat.reducePow, Nat.reduceEqDiff, ↓reduceIte, reduceCtorEq, Int.reduceToNat, Int.reduceAdd, Int.reduceSub, Int.reduceMul]
  refine hold_insertW okT (.inl rfl) rfl rfl rfl rfl hm rfl rfl rfl fun w13 hm hN => hold_ops okT (rs := [.tmp 0]) rfl ?_
  replace hM := hM.trans hN (fun y hy => .inr (by simp at hy; omega))
  simp (maxSteps := 1000000) (disch := first | omega | (simp only [sizeAlloc, sizeDrew, sizeSet, sizePut] <;> omega) | fail) only [GS, TT_eq, TTl, Nat.reduceAdd, Nat.reduceMul, Nat.reduceSub, Nat.reduceDiv, Nat.reduceMod, Nat.reducePow, Nat.reduceEqDiff, ↓reduceIte, reduceCtorEq, Int.reduceToNat, Int.reduceAdd, Int.reduceSub, Int.reduceMul]
  refine ⟨fok110, wPlain_cps [113, 117, 101, 114, 121] _ _ fun v4 hN => .inl ⟨_, rfl, hold_ops okT (rs := [.tmp 0]) rfl ?_⟩⟩
  replace hm := hm.mod hN (by simp)
  replace hM := hM.trans hN (by simp)
  simp (maxSteps := 1000000) (disch := first | omega | (simp only [sizeAlloc, sizeDrew, sizeSet, sizePut] <;> omega) | fail) only [GS, TT_eq, TTl, Nat.reduceAdd, Nat.reduceMul, Nat.reduceSub, Nat.reduceDiv, Nat.reduceMod, Nat.reducePow, Nat.reduceEqDiff, ↓reduceIte, reduceCtorEq, Int.reduceToNat, Int.reduceAdd, Int.reduceSub, Int.reduceMul]
  refine hold_insertW okT (.inl rfl) rfl rfl rfl rfl hm rfl rfl rfl fun w14 hm hN => hold_ops okT (rs := [.tmp 0]) rfl ?_
  replace hM := hM.trans hN (fun y hy => .inr (by simp at hy; omega))
  simp (maxSteps := 1000000) (disch := first | omega | (simp only [sizeAlloc, sizeDrew, sizeSet, sizePut] <;> omega) | fail) only [GS, TT_eq, TTl, Nat.reduceAdd, Nat.reduceMul, Nat.reduceSub, Nat.reduceDiv, Nat.reduceMod, Nat.reducePow, Nat.reduceEqDiff, ↓reduceIte, reduceCtorEq, Int.reduceToNat, Int.reduceAdd, Int.reduceSub, Int.reduceMul]
  refine ⟨fok110, wPlain_cps [104, 101, 108, 108, 111] _ _ fun v5 hN => .inl ⟨_, rfl, hold_ops okT (rs := [.tmp 0]) rfl ?_⟩⟩
  replace hm := hm.mod hN (by simp)
  replace hM := hM.trans hN (by simp)
  simp (maxSteps := 1000000) (disch := first | omega | (simp only [sizeAlloc, sizeDrew, sizeSet, sizePut] <;> omega) | fail) only [GS, TT_eq, TTl, Nat.reduceAdd, Nat.reduceMul, Nat.reduceSub, Nat.reduceDiv, Nat.reduceMod, Nat.reducePow, Nat.reduceEqDiff, ↓reduceIte, reduceCtorEq, Int.reduceToNat, Int.reduceAdd, Int.reduceSub, Int.reduceMul]
  refine hold_insertW okT (.inl rfl) rfl rfl rfl rfl hm rfl rfl rfl fun w15 hm hN => hold_ops okT (rs := [.tmp 0]) rfl ?_
  replace hM := hM.trans hN (fun y hy => .inr (by simp at hy; omega))
  simp (maxSteps := 1000000) (disch := first | omega | (simp only [sizeAlloc, sizeDrew, sizeSet, sizePut] <;> omega) | fail) only [GS, TT_eq, TTl, Nat.reduceAdd, Nat.reduceMul, Nat.reduceSub, Nat.reduceDiv, Nat.reduceMod, Nat.reducePow, Nat.reduceEqDiff, ↓reduceIte, reduceCtorEq, Int.reduceToNat, Int.reduceAdd, Int.reduceSub, Int.reduceMul]
  exact hR _ _ hm (by omega) hM
end Go.Proofs.Ytpcilobbohokcaa
set_option linter.unusedSimpArgs false
set_option linter.unusedVariables false
namespace Go.Proofs.Ytpcilobbohokcaa
open Go Go.Wk Go.RowKit
attribute [local irreducible] go Hold
open Go.Lib
/-- A message. -/
structure Msg where
  k : Int
  tx : Tx
  aud : Int
  mbs : List Mb
  body : List UInt8
  yes : Bool
  tag : List UInt8
def msgC (m : Msg) (sa : Value) : List Value := [.int .u8 m.k, .int .i64 m.tx.1, .int .i64 m.tx.2.1, .int .i64 m.tx.2.2, .int .i64 m.aud, sa, .string ⟨m.body.toArray⟩, .bool m.yes, .string ⟨m.tag.toArray⟩]
def msgV (m : Msg) (sa : Value) : Value := .agg (msgC m sa).toArray
set_option maxHeartbeats 1000000 in
theorem wK7_cps (m : Msg) (sa : Value) (w : World) (R : Ending → World → Prop) (hR : ∀ w', Mod [] w w' → R (.returned (.bool true)) w') : Calls Try.prog 107 #[msgV m sa] w R := by
  unfold msgV msgC
  refine calls_go 4000 okT Try.func107 rfl (rs := [.tmp 2]) rfl Try.ntmps107 (args := [.agg #[.int .u8 m.k, .int .i64 m.tx.1, .int .i64 m.tx.2.1, .int .i64 m.tx.2.2, .int .i64 m.aud, sa, .string ⟨m.body.toArray⟩, .bool m.yes, .string ⟨m.tag.toArray⟩]]) ?_
  simp (maxSteps := 1000000) (disch := first | omega | (simp only [sizeAlloc, sizeDrew, sizeSet, sizePut] <;> omega) | fail) only [GS, TT_eq, TTl, Nat.reduceAdd, Nat.reduceMul, Nat.reduceSub, Nat.reduceDiv, Nat.reduceMod, Nat.reducePow, Nat.reduceEqDiff, ↓reduceIte, reduceCtorEq, Int.reduceToNat, Int.reduceAdd, Int.reduceSub, Int.reduceMul]
  exact hR _ ((Mod.refl _ w).alloc _)
set_option maxHeartbeats 1000000 in
theorem wP1_cps (m : Msg) (sa : Value) (w : World) (R : Ending → World → Prop) (hR : ∀ w', Mod [] w w' → R (.returned (.bool true)) w') : Calls Try.prog 121 #[msgV m sa] w R := by
  unfold msgV msgC
  refine calls_go 4000 okT Try.func121 rfl (rs := [.tmp 2]) rfl Try.ntmps121 (args := [.agg #[.int .u8 m.k, .int .i64 m.tx.1, .int .i64 m.tx.2.1, .int .i64 m.tx.2.2, .int .i64 m.aud, sa, .string ⟨m.body.toArray⟩, .bool m.yes, .string ⟨m.tag.toArray⟩]]) ?_
  simp (maxSteps := 1000000) (disch := first | omega | (simp only [sizeAlloc, sizeDrew, sizeSet, sizePut] <;> omega) | fail) only [GS, TT_eq, TTl, Nat.reduceAdd, Nat.reduceMul, Nat.reduceSub, Nat.reduceDiv, Nat.reduceMod, Nat.reducePow, Nat.reduceEqDiff, ↓reduceIte, reduceCtorEq, Int.reduceToNat, Int.reduceAdd, Int.reduceSub, Int.reduceMul]
  exact hR _ ((Mod.refl _ w).alloc _)
end Go.Proofs.Ytpcilobbohokcaa
set_option linter.unusedSimpArgs false
set_option linter.unusedVariables false
namespace Go.Proofs.Ytpcilobbohokcaa
open Go Go.Wk Go.RowKit
attribute [local irreducible] go Hold
open Go.Lib
/-- What is asked of a vote. -/
def k4B (m : Msg) : Bool := (m.yes == decide (m.tag ≠ [])) && (!m.yes || checkS m.tag == 0)
set_option maxRecDepth 20000 in
set_option maxHeartbeats 2000000 in
theorem wK4_cps (m : Msg) (sa : Value) (hT : m.tag.length ≤ maxLen) (w : World) (R : Ending → World → Prop) (hR : ∀ w', Mod [] w w' → R (.returned (.bool (k4B m))) w') : Calls Try.prog 102 #[msgV m sa] w R := by
  unfold k4B at hR
  obtain ⟨k, ⟨a, b, c⟩, aud, mbs, body, yes, tag⟩ := m
  unfold msgV msgC
  simp only at hR hT ⊢
  refine calls_go 4000 okT Try.func102 rfl (rs := [.tmp 2]) rfl Try.ntmps102 (args := [.agg #[.int .u8 k, .int .i64 a, .int .i64 b, .int .i64 c, .int .i64 aud, sa, .string ⟨body.toArray⟩, .bool yes, .string ⟨tag.toArray⟩]]) ?_
  cases yes
  · cases tag with
    | nil =>
      simp (maxSteps := 1000000) (disch := first | omega | (simp only [sizeAlloc, sizeDrew, sizeSet, sizePut] <;> omega) | fail) only [GS, TT_eq, TTl, Nat.reduceAdd, Nat.reduceMul, Nat.reduceSub, Nat.reduceDiv, Nat.reduceMod, Nat.reducePow, Nat.reduceEqDiff, ↓reduceIte, reduceCtorEq, Int.reduceToNat, Int.reduceAdd, Int.reduceSub, Int.reduceMul]
      exact hR _ ((Mod.refl _ w).alloc _)
    | cons x l =>
      simp (maxSteps := 1000000) (disch := first | omega | (simp only [sizeAlloc, sizeDrew, sizeSet, sizePut] <;> omega) | fail) only [GS, TT_eq, TTl, Nat.reduceAdd, Nat.reduceMul, Nat.reduceSub, Nat.reduceDiv, Nat.reduceMod, Nat.reducePow, Nat.reduceEqDiff, ↓reduceIte, reduceCtorEq, Int.reduceToNat, Int.reduceAdd, Int.reduceSub, Int.reduceMul]
      exact hR _ ((Mod.refl _ w).alloc _)
  · cases tag with
    | nil =>
      simp (maxSteps := 1000000) (disch := first | omega | (simp only [sizeAlloc, sizeDrew, sizeSet, sizePut] <;> omega) | fail) only [GS, TT_eq, TTl, Nat.reduceAdd, Nat.reduceMul, Nat.reduceSub, Nat.reduceDiv, Nat.reduceMod, Nat.reducePow, Nat.reduceEqDiff, ↓reduceIte, reduceCtorEq, Int.reduceToNat, Int.reduceAdd, Int.reduceSub, Int.reduceMul]
      exact hR _ ((Mod.refl _ w).alloc _)
    | cons x l =>
      simp (maxSteps := 1000000) (disch := first | omega | (simp only [sizeAlloc, sizeDrew, sizeSet, sizePut] <;> omega) | fail) only [GS, TT_eq, TTl, Nat.reduceAdd, Nat.reduceMul, Nat.reduceSub, Nat.reduceDiv, Nat.reduceMod, Nat.reducePow, Nat.reduceEqDiff, ↓reduceIte, reduceCtorEq, Int.reduceToNat, Int.reduceAdd, Int.reduceSub, Int.reduceMul]
      refine ⟨fok12, tCheck_cps (x :: l) hT _ _ fun w1 hM => .inl ⟨_, rfl, hold_ops okT (rs := [.tmp 2]) rfl ?_⟩⟩
      simp (maxSteps := 1000000) (disch := first | omega | (simp only [sizeAlloc, sizeDrew, sizeSet, sizePut] <;> omega) | fail) only [GS, TT_eq, TTl, Nat.reduceAdd, Nat.reduceMul, Nat.reduceSub, Nat.reduceDiv, Nat.reduceMod, Nat.reducePow, Nat.reduceEqDiff, ↓reduceIte, reduceCtorEq, Int.reduceToNat, Int.reduceAdd, Int.reduceSub, Int.reduceMul]
      have := hR w1 (((Mod.refl _ w).alloc _).trans hM (by simp))
      have hb : (true == decide (x :: l ≠ []) && (!true || checkS (x :: l) == 0)) = decide (checkS (x :: l) = 0) := by rw [Bool.eq_iff_iff]; simp
      rw [hb] at this
      exact this
/-- What is asked of a prepare. -/
def k1B (m : Msg) : Bool := orgB m.aud && mbB m.tx.1 m.mbs && decide (checkS m.body = 0)
set_option maxRecDepth 20000 in
set_option maxHeartbeats 4000000 in
theorem wK1_cps (m : Msg) (sa : Value) (hB : m.body.length ≤ maxLen) (hl : m.mbs.length ≤ 1000000) (hd : ∀ x ∈ m.mbs, x.2.length ≤ maxLen) (w : World) (ha : Rd w 2 sa m.mbs.length (m.mbs.flatMap mbC)) (R : Ending → World → Prop) (hR : ∀ w', Mod [] w w' → R (.returned (.bool (k1B m))) w') : Calls Try.prog 97 #[msgV m sa] w R := by
  unfold k1B at hR
  obtain ⟨k, ⟨a, b, c⟩, aud, mbs, body, yes, tag⟩ := m
  unfold msgV msgC
  simp only at hR hB hl hd ha ⊢
  refine calls_go 4000 okT Try.func97 rfl (rs := [.tmp 2]) rfl Try.ntmps97 (args := [.agg #[.int .u8 k, .int .i64 a, .int .i64 b, .int .i64 c, .int .i64 aud, sa, .string ⟨body.toArray⟩, .bool yes, .string ⟨tag.toArray⟩]]) ?_
  simp (maxSteps := 1000000) (disch := first | omega | (simp only [sizeAlloc, sizeDrew, sizeSet, sizePut] <;> omega) | fail) only [GS, TT_eq, TTl, Nat.reduceAdd, Nat.reduceMul, Nat.reduceSub, Nat.reduceDiv, Nat.reduceMod, Nat.reducePow, Nat.reduceEqDiff, ↓reduceIte, reduceCtorEq, Int.reduceToNat, Int.reduceAdd, Int.reduceSub, Int.reduceMul]
  refine ⟨fok84, wOrg_cps aud _ _ (.inl ⟨_, rfl, hold_ops okT (rs := [.tmp 2]) rfl ?_⟩)⟩
  have hM0 := (Mod.refl [] w).alloc (.cells #[.int .u8 k, .int .i64 a, .int .i64 b, .int .i64 c, .int .i64 aud, sa, .string ⟨body.toArray⟩, .bool yes, .string ⟨tag.toArray⟩] 42)
  have hh := heapNew (w := w) (o := .cells #[.int .u8 k, .int .i64 a, .int .i64 b, .int .i64 c, .int .i64 aud, sa, .string ⟨body.toArray⟩, .bool yes, .string ⟨tag.toArray⟩] 42)
  generalize w.alloc (.cells #[.int .u8 k, .int .i64 a, .int .i64 b, .int .i64 c, .int .i64 aud, sa, .string ⟨body.toArray⟩, .bool yes, .string ⟨tag.toArray⟩] 42) = w1 at hM0 hh ⊢
  generalize w.heap.size = n at hh ⊢
  cases ho : orgB aud
  · rw [ho] at hR
    simp (maxSteps := 1000000) (disch := first | omega | (simp only [sizeAlloc, sizeDrew, sizeSet, sizePut] <;> omega) | fail) only [GS, TT_eq, TTl, Nat.reduceAdd, Nat.reduceMul, Nat.reduceSub, Nat.reduceDiv, Nat.reduceMod, Nat.reducePow, Nat.reduceEqDiff, ↓reduceIte, reduceCtorEq, Int.reduceToNat, Int.reduceAdd, Int.reduceSub, Int.reduceMul]
    exact hR _ hM0
  · rw [ho] at hR
    simp only [Bool.true_and] at hR
    have c1 := fun o => cellOf (o := o) hh
    simp (maxSteps := 1000000) (disch := first | omega | (simp only [sizeAlloc, sizeDrew, sizeSet, sizePut] <;> omega) | fail) only [GS, TT_eq, TTl, Nat.reduceAdd, Nat.reduceMul, Nat.reduceSub, Nat.reduceDiv, Nat.reduceMod, Nat.reducePow, Nat.reduceEqDiff, ↓reduceIte, reduceCtorEq, Int.reduceToNat, Int.reduceAdd, Int.reduceSub, Int.reduceMul, c1]
    refine ⟨fok47, wMayMembers_cps (a, b, c) sa mbs _ _ hl hd (ha.mod hM0 (by simp)) fun w2 hM => .inl ⟨_, rfl, hold_ops okT (rs := [.tmp 2]) rfl ?_⟩⟩
    have hh2 := hM.get hh (by simp)
    have c2 := fun o => cellOf (o := o) hh2
    have hM2 := hM0.trans hM (by simp)
    cases hm : mbB a mbs
    · simp only [hm, Bool.false_and] at hR
      simp (maxSteps := 1000000) (disch := first | omega | (simp only [sizeAlloc, sizeDrew, sizeSet, sizePut] <;> omega) | fail) only [GS, TT_eq, TTl, Nat.reduceAdd, Nat.reduceMul, Nat.reduceSub, Nat.reduceDiv, Nat.reduceMod, Nat.reducePow, Nat.reduceEqDiff, ↓reduceIte, reduceCtorEq, Int.reduceToNat, Int.reduceAdd, Int.reduceSub, Int.reduceMul, c2, hm]
      exact hR _ hM2
    · simp only [hm, Bool.true_and] at hR
      simp (maxSteps := 1000000) (disch := first | omega | (simp only [sizeAlloc, sizeDrew, sizeSet, sizePut] <;> omega) | fail) only [GS, TT_eq, TTl, Nat.reduceAdd, Nat.reduceMul, Nat.reduceSub, Nat.reduceDiv, Nat.reduceMod, Nat.reducePow, Nat.reduceEqDiff, ↓reduceIte, reduceCtorEq, Int.reduceToNat, Int.reduceAdd, Int.reduceSub, Int.reduceMul, c2, hm]
      refine ⟨fok12, tCheck_cps body hB _ _ fun w3 hM3 => .inl ⟨_, rfl, hold_ops okT (rs := [.tmp 2]) rfl ?_⟩⟩
      simp (maxSteps := 1000000) (disch := first | omega | (simp only [sizeAlloc, sizeDrew, sizeSet, sizePut] <;> omega) | fail) only [GS, TT_eq, TTl, Nat.reduceAdd, Nat.reduceMul, Nat.reduceSub, Nat.reduceDiv, Nat.reduceMod, Nat.reducePow, Nat.reduceEqDiff, ↓reduceIte, reduceCtorEq, Int.reduceToNat, Int.reduceAdd, Int.reduceSub, Int.reduceMul]
      exact hR _ (hM2.trans hM3 (by simp))
end Go.Proofs.Ytpcilobbohokcaa
set_option linter.unusedSimpArgs false
set_option linter.unusedVariables false
namespace Go.Proofs.Ytpcilobbohokcaa
open Go Go.Wk Go.RowKit
attribute [local irreducible] go Hold
open Go.Lib
end Go.Proofs.Ytpcilobbohokcaa
set_option linter.unusedSimpArgs false
set_option linter.unusedVariables false
namespace Go.Proofs.Ytpcilobbohokcaa
open Go Go.Wk Go.RowKit
attribute [local irreducible] go Hold
open Go.Lib
end Go.Proofs.Ytpcilobbohokcaa
set_option linter.unusedSimpArgs false
set_option linter.unusedVariables false
namespace Go.Proofs.Ytpcilobbohokcaa
open Go Go.Wk Go.RowKit
attribute [local irreducible] go Hold
open Go.Lib
theorem kcase (k : Int) : k = 1 ∨ k = 2 ∨ k = 3 ∨ (¬ k = 1 ∧ ¬ k = 2 ∧ ¬ k = 3) := by omega
def idleB (m : Msg) : Bool :=
  if ¬ m.k = 1 ∧ (¬ m.aud = 0 ∨ ¬ m.mbs.length = 0 ∨ ¬ m.body = []) then false
  else if (¬ (m.k = 2 ∨ m.k = 3) ∧ m.yes = true) ∨ (¬ m.k = 2 ∧ ¬ m.tag = []) then false
  else decide (¬ m.k = 6 ∨ m.tx = (0, 0, 0))
set_option maxRecDepth 20000 in
set_option maxHeartbeats 16000000 in
theorem wIdle_cps (m : Msg) (sa : Value) (hl : m.mbs.length ≤ 1000000) (w : World) (ha : Rd w 2 sa m.mbs.length (m.mbs.flatMap mbC)) (R : Ending → World → Prop) (hR : ∀ w', Mod [] w w' → R (.returned (.bool (idleB m))) w') : Calls Try.prog 58 #[msgV m sa] w R := by
  obtain ⟨k, ⟨a, b, c⟩, aud, mbs, body, yes, tag⟩ := m
  unfold msgV msgC
  simp only at hR hl ha ⊢
  obtain ⟨la, lc, rfl⟩ := ha.slice
  refine calls_go 4000 okT Try.func58 rfl (rs := [.tmp 2]) rfl Try.ntmps58 (args := [.agg #[.int .u8 k, .int .i64 a, .int .i64 b, .int .i64 c, .int .i64 aud, .slice la mbs.length lc, .string ⟨body.toArray⟩, .bool yes, .string ⟨tag.toArray⟩]]) ?_
  have hbnd : bnd (decide (a = 0)) (bnd (decide (b = 0)) (bnd (decide (c = 0)) true)) = (decide (a = 0) && (decide (b = 0) && decide (c = 0))) := by cases decide (a = 0) <;> cases decide (b = 0) <;> cases decide (c = 0) <;> rfl
  rcases kcase k with rfl | rfl | rfl | ⟨k1, k2, k3⟩
  · skip
    simp (maxSteps := 1000000) (disch := first | omega | (simp only [sizeAlloc, sizeDrew, sizeSet, sizePut] <;> omega) | fail) only [GS, TT_eq, TTl, Nat.reduceAdd, Nat.reduceMul, Nat.reduceSub, Nat.reduceDiv, Nat.reduceMod, Nat.reducePow, Nat.reduceEqDiff, ↓reduceIte, reduceCtorEq, Int.reduceToNat, Int.reduceAdd, Int.reduceSub, Int.reduceMul]
    refine ⟨by kernel_rfl, fun d => ?_⟩
    cases yes with
    | false =>
      cases tag with
      | nil =>
        simp [idleB] at hR
        simp (maxSteps := 1000000) (disch := first | omega | (simp only [sizeAlloc, sizeDrew, sizeSet, sizePut] <;> omega) | fail) only [GS, TT_eq, TTl, Nat.reduceAdd, Nat.reduceMul, Nat.reduceSub, Nat.reduceDiv, Nat.reduceMod, Nat.reducePow, Nat.reduceEqDiff, ↓reduceIte, reduceCtorEq, Int.reduceToNat, Int.reduceAdd, Int.reduceSub, Int.reduceMul]
        first | exact hR _ (((Mod.refl [] w).alloc _).drewN _) | (rw [hbnd]; exact hR _ (((Mod.refl [] w).alloc _).drewN _))
      | cons _ _ =>
        simp [idleB] at hR
        simp (maxSteps := 1000000) (disch := first | omega | (simp only [sizeAlloc, sizeDrew, sizeSet, sizePut] <;> omega) | fail) only [GS, TT_eq, TTl, Nat.reduceAdd, Nat.reduceMul, Nat.reduceSub, Nat.reduceDiv, Nat.reduceMod, Nat.reducePow, Nat.reduceEqDiff, ↓reduceIte, reduceCtorEq, Int.reduceToNat, Int.reduceAdd, Int.reduceSub, Int.reduceMul]
        first | exact hR _ (((Mod.refl [] w).alloc _).drewN _) | (rw [hbnd]; exact hR _ (((Mod.refl [] w).alloc _).drewN _))
    | true =>
      simp [idleB] at hR
      simp (maxSteps := 1000000) (disch := first | omega | (simp only [sizeAlloc, sizeDrew, sizeSet, sizePut] <;> omega) | fail) only [GS, TT_eq, TTl, Nat.reduceAdd, Nat.reduceMul, Nat.reduceSub, Nat.reduceDiv, Nat.reduceMod, Nat.reducePow, Nat.reduceEqDiff, ↓reduceIte, reduceCtorEq, Int.reduceToNat, Int.reduceAdd, Int.reduceSub, Int.reduceMul]
      first | exact hR _ (((Mod.refl [] w).alloc _).drewN _) | (rw [hbnd]; exact hR _ (((Mod.refl [] w).alloc _).drewN _))
  · skip
    simp (maxSteps := 1000000) (disch := first | omega | (simp only [sizeAlloc, sizeDrew, sizeSet, sizePut] <;> omega) | fail) only [GS, TT_eq, TTl, Nat.reduceAdd, Nat.reduceMul, Nat.reduceSub, Nat.reduceDiv, Nat.reduceMod, Nat.reducePow, Nat.reduceEqDiff, ↓reduceIte, reduceCtorEq, Int.reduceToNat, Int.reduceAdd, Int.reduceSub, Int.reduceMul]
    refine ⟨by kernel_rfl, fun d => ?_⟩
    by_cases h_aud : aud = 0
    · skip
      by_cases h_len : ((mbs.length : Nat) : Int) = 0
      · skip
        have h_l2 : mbs.length = 0 := by omega
        cases body with
        | nil =>
          simp [idleB, h_aud, h_len, h_l2] at hR
          simp (maxSteps := 1000000) (disch := first | omega | (simp only [sizeAlloc, sizeDrew, sizeSet, sizePut] <;> omega) | fail) only [GS, TT_eq, TTl, Nat.reduceAdd, Nat.reduceMul, Nat.reduceSub, Nat.reduceDiv, Nat.reduceMod, Nat.reducePow, Nat.reduceEqDiff, ↓reduceIte, reduceCtorEq, Int.reduceToNat, Int.reduceAdd, Int.reduceSub, Int.reduceMul, h_aud, h_len]
          first | exact hR _ (((Mod.refl [] w).alloc _).drewN _) | (rw [hbnd]; exact hR _ (((Mod.refl [] w).alloc _).drewN _))
        | cons _ _ =>
          simp [idleB, h_aud, h_len, h_l2] at hR
          simp (maxSteps := 1000000) (disch := first | omega | (simp only [sizeAlloc, sizeDrew, sizeSet, sizePut] <;> omega) | fail) only [GS, TT_eq, TTl, Nat.reduceAdd, Nat.reduceMul, Nat.reduceSub, Nat.reduceDiv, Nat.reduceMod, Nat.reducePow, Nat.reduceEqDiff, ↓reduceIte, reduceCtorEq, Int.reduceToNat, Int.reduceAdd, Int.reduceSub, Int.reduceMul, h_aud, h_len]
          first | exact hR _ (((Mod.refl [] w).alloc _).drewN _) | (rw [hbnd]; exact hR _ (((Mod.refl [] w).alloc _).drewN _))
      · skip
        have h_l2 : ¬ mbs.length = 0 := by omega
        simp [idleB, h_aud, h_len, h_l2] at hR
        simp (maxSteps := 1000000) (disch := first | omega | (simp only [sizeAlloc, sizeDrew, sizeSet, sizePut] <;> omega) | fail) only [GS, TT_eq, TTl, Nat.reduceAdd, Nat.reduceMul, Nat.reduceSub, Nat.reduceDiv, Nat.reduceMod, Nat.reducePow, Nat.reduceEqDiff, ↓reduceIte, reduceCtorEq, Int.reduceToNat, Int.reduceAdd, Int.reduceSub, Int.reduceMul, h_aud, h_len]
        first | exact hR _ (((Mod.refl [] w).alloc _).drewN _) | (rw [hbnd]; exact hR _ (((Mod.refl [] w).alloc _).drewN _))
    · skip
      simp [idleB, h_aud] at hR
      simp (maxSteps := 1000000) (disch := first | omega | (simp only [sizeAlloc, sizeDrew, sizeSet, sizePut] <;> omega) | fail) only [GS, TT_eq, TTl, Nat.reduceAdd, Nat.reduceMul, Nat.reduceSub, Nat.reduceDiv, Nat.reduceMod, Nat.reducePow, Nat.reduceEqDiff, ↓reduceIte, reduceCtorEq, Int.reduceToNat, Int.reduceAdd, Int.reduceSub, Int.reduceMul, h_aud]
      first | exact hR _ (((Mod.refl [] w).alloc _).drewN _) | (rw [hbnd]; exact hR _ (((Mod.refl [] w).alloc _).drewN _))
  · skip
    simp (maxSteps := 1000000) (disch := first | omega | (simp only [sizeAlloc, sizeDrew, sizeSet, sizePut] <;> omega) | fail) only [GS, TT_eq, TTl, Nat.reduceAdd, Nat.reduceMul, Nat.reduceSub, Nat.reduceDiv, Nat.reduceMod, Nat.reducePow, Nat.reduceEqDiff, ↓reduceIte, reduceCtorEq, Int.reduceToNat, Int.reduceAdd, Int.reduceSub, Int.reduceMul]
    refine ⟨by kernel_rfl, fun d => ?_⟩
    by_cases h_aud : aud = 0
    · skip
      by_cases h_len : ((mbs.length : Nat) : Int) = 0
      · skip
        have h_l2 : mbs.length = 0 := by omega
        cases body with
        | nil =>
          cases tag with
          | nil =>
            simp [idleB, h_aud, h_len, h_l2] at hR
            simp (maxSteps := 1000000) (disch := first | omega | (simp only [sizeAlloc, sizeDrew, sizeSet, sizePut] <;> omega) | fail) only [GS, TT_eq, TTl, Nat.reduceAdd, Nat.reduceMul, Nat.reduceSub, Nat.reduceDiv, Nat.reduceMod, Nat.reducePow, Nat.reduceEqDiff, ↓reduceIte, reduceCtorEq, Int.reduceToNat, Int.reduceAdd, Int.reduceSub, Int.reduceMul, h_aud, h_len]
            first | exact hR _ (((Mod.refl [] w).alloc _).drewN _) | (rw [hbnd]; exact hR _ (((Mod.refl [] w).alloc _).drewN _))
          | cons _ _ =>
            simp [idleB, h_aud, h_len, h_l2] at hR
            simp (maxSteps := 1000000) (disch := first | omega | (simp only [sizeAlloc, sizeDrew, sizeSet, sizePut] <;> omega) | fail) only [GS, TT_eq, TTl, Nat.reduceAdd, Nat.reduceMul, Nat.reduceSub, Nat.reduceDiv, Nat.reduceMod, Nat.reducePow, Nat.reduceEqDiff, ↓reduceIte, reduceCtorEq, Int.reduceToNat, Int.reduceAdd, Int.reduceSub, Int.reduceMul, h_aud, h_len]
            first | exact hR _ (((Mod.refl [] w).alloc _).drewN _) | (rw [hbnd]; exact hR _ (((Mod.refl [] w).alloc _).drewN _))
        | cons _ _ =>
          simp [idleB, h_aud, h_len, h_l2] at hR
          simp (maxSteps := 1000000) (disch := first | omega | (simp only [sizeAlloc, sizeDrew, sizeSet, sizePut] <;> omega) | fail) only [GS, TT_eq, TTl, Nat.reduceAdd, Nat.reduceMul, Nat.reduceSub, Nat.reduceDiv, Nat.reduceMod, Nat.reducePow, Nat.reduceEqDiff, ↓reduceIte, reduceCtorEq, Int.reduceToNat, Int.reduceAdd, Int.reduceSub, Int.reduceMul, h_aud, h_len]
          first | exact hR _ (((Mod.refl [] w).alloc _).drewN _) | (rw [hbnd]; exact hR _ (((Mod.refl [] w).alloc _).drewN _))
      · skip
        have h_l2 : ¬ mbs.length = 0 := by omega
        simp [idleB, h_aud, h_len, h_l2] at hR
        simp (maxSteps := 1000000) (disch := first | omega | (simp only [sizeAlloc, sizeDrew, sizeSet, sizePut] <;> omega) | fail) only [GS, TT_eq, TTl, Nat.reduceAdd, Nat.reduceMul, Nat.reduceSub, Nat.reduceDiv, Nat.reduceMod, Nat.reducePow, Nat.reduceEqDiff, ↓reduceIte, reduceCtorEq, Int.reduceToNat, Int.reduceAdd, Int.reduceSub, Int.reduceMul, h_aud, h_len]
        first | exact hR _ (((Mod.refl [] w).alloc _).drewN _) | (rw [hbnd]; exact hR _ (((Mod.refl [] w).alloc _).drewN _))
    · skip
      simp [idleB, h_aud] at hR
      simp (maxSteps := 1000000) (disch := first | omega | (simp only [sizeAlloc, sizeDrew, sizeSet, sizePut] <;> omega) | fail) only [GS, TT_eq, TTl, Nat.reduceAdd, Nat.reduceMul, Nat.reduceSub, Nat.reduceDiv, Nat.reduceMod, Nat.reducePow, Nat.reduceEqDiff, ↓reduceIte, reduceCtorEq, Int.reduceToNat, Int.reduceAdd, Int.reduceSub, Int.reduceMul, h_aud]
      first | exact hR _ (((Mod.refl [] w).alloc _).drewN _) | (rw [hbnd]; exact hR _ (((Mod.refl [] w).alloc _).drewN _))
  · skip
    simp (maxSteps := 1000000) (disch := first | omega | (simp only [sizeAlloc, sizeDrew, sizeSet, sizePut] <;> omega) | fail) only [GS, TT_eq, TTl, Nat.reduceAdd, Nat.reduceMul, Nat.reduceSub, Nat.reduceDiv, Nat.reduceMod, Nat.reducePow, Nat.reduceEqDiff, ↓reduceIte, reduceCtorEq, Int.reduceToNat, Int.reduceAdd, Int.reduceSub, Int.reduceMul, k1, k2, k3]
    refine ⟨by kernel_rfl, fun d => ?_⟩
    by_cases h_aud : aud = 0
    · skip
      by_cases h_len : ((mbs.length : Nat) : Int) = 0
      · skip
        have h_l2 : mbs.length = 0 := by omega
        cases body with
        | nil =>
          cases yes with
          | false =>
            cases tag with
            | nil =>
              by_cases h_k6 : k = 6
              · skip
                simp [idleB, k1, k2, k3, h_aud, h_len, h_l2, h_k6] at hR
                simp (maxSteps := 1000000) (disch := first | omega | (simp only [sizeAlloc, sizeDrew, sizeSet, sizePut] <;> omega) | fail) only [GS, TT_eq, TTl, Nat.reduceAdd, Nat.reduceMul, Nat.reduceSub, Nat.reduceDiv, Nat.reduceMod, Nat.reducePow, Nat.reduceEqDiff, ↓reduceIte, reduceCtorEq, Int.reduceToNat, Int.reduceAdd, Int.reduceSub, Int.reduceMul, k1, k2, k3, h_aud, h_len, h_k6]
                first | exact hR _ (((Mod.refl [] w).alloc _).drewN _) | (rw [hbnd]; exact hR _ (((Mod.refl [] w).alloc _).drewN _))
              · skip
                simp [idleB, k1, k2, k3, h_aud, h_len, h_l2, h_k6] at hR
                simp (maxSteps := 1000000) (disch := first | omega | (simp only [sizeAlloc, sizeDrew, sizeSet, sizePut] <;> omega) | fail) only [GS, TT_eq, TTl, Nat.reduceAdd, Nat.reduceMul, Nat.reduceSub, Nat.reduceDiv, Nat.reduceMod, Nat.reducePow, Nat.reduceEqDiff, ↓reduceIte, reduceCtorEq, Int.reduceToNat, Int.reduceAdd, Int.reduceSub, Int.reduceMul, k1, k2, k3, h_aud, h_len, h_k6]
                first | exact hR _ (((Mod.refl [] w).alloc _).drewN _) | (rw [hbnd]; exact hR _ (((Mod.refl [] w).alloc _).drewN _))
            | cons _ _ =>
              simp [idleB, k1, k2, k3, h_aud, h_len, h_l2] at hR
              simp (maxSteps := 1000000) (disch := first | omega | (simp only [sizeAlloc, sizeDrew, sizeSet, sizePut] <;> omega) | fail) only [GS, TT_eq, TTl, Nat.reduceAdd, Nat.reduceMul, Nat.reduceSub, Nat.reduceDiv, Nat.reduceMod, Nat.reducePow, Nat.reduceEqDiff, ↓reduceIte, reduceCtorEq, Int.reduceToNat, Int.reduceAdd, Int.reduceSub, Int.reduceMul, k1, k2, k3, h_aud, h_len]
              first | exact hR _ (((Mod.refl [] w).alloc _).drewN _) | (rw [hbnd]; exact hR _ (((Mod.refl [] w).alloc _).drewN _))
          | true =>
            simp [idleB, k1, k2, k3, h_aud, h_len, h_l2] at hR
            simp (maxSteps := 1000000) (disch := first | omega | (simp only [sizeAlloc, sizeDrew, sizeSet, sizePut] <;> omega) | fail) only [GS, TT_eq, TTl, Nat.reduceAdd, Nat.reduceMul, Nat.reduceSub, Nat.reduceDiv, Nat.reduceMod, Nat.reducePow, Nat.reduceEqDiff, ↓reduceIte, reduceCtorEq, Int.reduceToNat, Int.reduceAdd, Int.reduceSub, Int.reduceMul, k1, k2, k3, h_aud, h_len]
            first | exact hR _ (((Mod.refl [] w).alloc _).drewN _) | (rw [hbnd]; exact hR _ (((Mod.refl [] w).alloc _).drewN _))
        | cons _ _ =>
          simp [idleB, k1, k2, k3, h_aud, h_len, h_l2] at hR
          simp (maxSteps := 1000000) (disch := first | omega | (simp only [sizeAlloc, sizeDrew, sizeSet, sizePut] <;> omega) | fail) only [GS, TT_eq, TTl, Nat.reduceAdd, Nat.reduceMul, Nat.reduceSub, Nat.reduceDiv, Nat.reduceMod, Nat.reducePow, Nat.reduceEqDiff, ↓reduceIte, reduceCtorEq, Int.reduceToNat, Int.reduceAdd, Int.reduceSub, Int.reduceMul, k1, k2, k3, h_aud, h_len]
          first | exact hR _ (((Mod.refl [] w).alloc _).drewN _) | (rw [hbnd]; exact hR _ (((Mod.refl [] w).alloc _).drewN _))
      · skip
        have h_l2 : ¬ mbs.length = 0 := by omega
        simp [idleB, k1, k2, k3, h_aud, h_len, h_l2] at hR
        simp (maxSteps := 1000000) (disch := first | omega | (simp only [sizeAlloc, sizeDrew, sizeSet, sizePut] <;> omega) | fail) only [GS, TT_eq, TTl, Nat.reduceAdd, Nat.reduceMul, Nat.reduceSub, Nat.reduceDiv, Nat.reduceMod, Nat.reducePow, Nat.reduceEqDiff, ↓reduceIte, reduceCtorEq, Int.reduceToNat, Int.reduceAdd, Int.reduceSub, Int.reduceMul, k1, k2, k3, h_aud, h_len]
        first | exact hR _ (((Mod.refl [] w).alloc _).drewN _) | (rw [hbnd]; exact hR _ (((Mod.refl [] w).alloc _).drewN _))
    · skip
      simp [idleB, k1, k2, k3, h_aud] at hR
      simp (maxSteps := 1000000) (disch := first | omega | (simp only [sizeAlloc, sizeDrew, sizeSet, sizePut] <;> omega) | fail) only [GS, TT_eq, TTl, Nat.reduceAdd, Nat.reduceMul, Nat.reduceSub, Nat.reduceDiv, Nat.reduceMod, Nat.reducePow, Nat.reduceEqDiff, ↓reduceIte, reduceCtorEq, Int.reduceToNat, Int.reduceAdd, Int.reduceSub, Int.reduceMul, k1, k2, k3, h_aud]
      first | exact hR _ (((Mod.refl [] w).alloc _).drewN _) | (rw [hbnd]; exact hR _ (((Mod.refl [] w).alloc _).drewN _))
end Go.Proofs.Ytpcilobbohokcaa
set_option linter.unusedSimpArgs false
set_option linter.unusedVariables false
namespace Go.Proofs.Ytpcilobbohokcaa
open Go Go.Wk Go.RowKit
attribute [local irreducible] go Hold
open Go.Lib
end Go.Proofs.Ytpcilobbohokcaa
set_option linter.unusedSimpArgs false
set_option linter.unusedVariables false
namespace Go.Proofs.Ytpcilobbohokcaa
open Go Go.Wk Go.RowKit
attribute [local irreducible] go Hold
open Go.Lib
end Go.Proofs.Ytpcilobbohokcaa
