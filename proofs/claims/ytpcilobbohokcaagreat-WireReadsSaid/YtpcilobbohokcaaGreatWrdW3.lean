/-
  wire.plain, wire.kinds (walks). wire: the small functions over a message (walks). wire: the forms' checks (walks). wire: the forms' readers of votes and decisions (walks). wire: the forms' writers (walks). wire.idle (walk). wire: the prepare's writer (walk). wire: the prepare's reader (walk).
-/
import Derived.Test.YtpcilobbohokcaaGreatWrdW2
set_option linter.unusedSimpArgs false
set_option linter.unusedVariables false
set_option maxRecDepth 20000
namespace Go.Proofs.YtpcilobbohokcaaGreat
open Go Go.Wk Go.RowKit
attribute [local irreducible] go Hold
open Go.Lib
/-- A kind of message: its word, how many fields at least and at most, and its three functions. -/
def kdV (S : List UInt8) (mn mx : Int) (a b c : Nat) : Value := .agg #[.string ⟨S.toArray⟩, .int .i64 mn, .int .i64 mx, .func (.func a) #[] #[], .func (.func b) #[] #[], .func (.func c) #[] #[]]
def plV (S : List UInt8) : Value := kdV S 0 0 169 170 171
def kindsL : List (Value × Value) := [(.int .u8 1, kdV [112, 114, 101, 112, 97, 114, 101] 3 3 135 136 137), (.int .u8 2, kdV [118, 111, 116, 101] 1 2 139 140 142), (.int .u8 3, kdV [100, 101, 99, 105, 115, 105, 111, 110] 1 1 145 146 147), (.int .u8 4, plV [97, 99, 107]), (.int .u8 5, plV [113, 117, 101, 114, 121]), (.int .u8 6, plV [104, 101, 108, 108, 111])]
set_option maxHeartbeats 4000000 in
theorem wPlain_cps (S : List UInt8) (w : World) (R : Ending → World → Prop) (hR : ∀ w', Mod [] w w' → R (.returned (plV S)) w') : Calls Tryz.prog 148 #[.string ⟨S.toArray⟩] w R := by
  refine calls_go 4000 okT Tryz.func148 rfl (rs := [.cell 2 105]) rfl Tryz.ntmps148 (args := [.string ⟨S.toArray⟩]) ?_
  simp (maxSteps := 1000000) (disch := first | omega | (simp only [sizeAlloc, sizeDrew, sizeSet, sizePut] <;> omega) | fail) only [GS, TT_eq, TTl, Nat.reduceAdd, Nat.reduceMul, Nat.reduceSub, Nat.reduceDiv, Nat.reduceMod, Nat.reducePow, Nat.reduceEqDiff, ↓reduceIte, reduceCtorEq, Int.reduceToNat, Int.reduceAdd, Int.reduceSub, Int.reduceMul]
  have hc := st6 (x := .string ⟨S.toArray⟩) (y := .int .i64 0) (z := .int .i64 0) (u := .func (.func 169) #[] #[]) (v := .func (.func 170) #[] #[]) (q := .func (.func 171) #[] #[]) (heapNew (w := w) (o := .cells #[.string ⟨#[]⟩, .int .i64 0, .int .i64 0, .nilFunc, .nilFunc, .nilFunc] 105))
  have hM : Mod [] w _ := (((((((Mod.refl [] w).alloc (.cells #[.string ⟨#[]⟩, .int .i64 0, .int .i64 0, .nilFunc, .nilFunc, .nilFunc] 105)).set (p := ⟨w.heap.size, 0, none⟩) (.inr (Nat.le_refl _)) (.string ⟨S.toArray⟩)).set (p := ⟨w.heap.size, 1, none⟩) (.inr (Nat.le_refl _)) (.int .i64 0)).set (p := ⟨w.heap.size, 2, none⟩) (.inr (Nat.le_refl _)) (.int .i64 0)).set (p := ⟨w.heap.size, 3, none⟩) (.inr (Nat.le_refl _)) (.func (.func 169) #[] #[])).set (p := ⟨w.heap.size, 4, none⟩) (.inr (Nat.le_refl _)) (.func (.func 170) #[] #[])).set (p := ⟨w.heap.size, 5, none⟩) (.inr (Nat.le_refl _)) (.func (.func 171) #[] #[])
  revert hc hM
  generalize (((((((w.alloc (.cells #[.string ⟨#[]⟩, .int .i64 0, .int .i64 0, .nilFunc, .nilFunc, .nilFunc] 105)).setCell ⟨w.heap.size, 0, none⟩ (.string ⟨S.toArray⟩)).setCell ⟨w.heap.size, 1, none⟩ (.int .i64 0)).setCell ⟨w.heap.size, 2, none⟩ (.int .i64 0)).setCell ⟨w.heap.size, 3, none⟩ (.func (.func 169) #[] #[])).setCell ⟨w.heap.size, 4, none⟩ (.func (.func 170) #[] #[])).setCell ⟨w.heap.size, 5, none⟩ (.func (.func 171) #[] #[])) = w2
  intro hc hM
  simp (maxSteps := 1000000) (disch := first | omega | (simp only [sizeAlloc, sizeDrew, sizeSet, sizePut] <;> omega) | fail) only [GS, TT_eq, TTl, Nat.reduceAdd, Nat.reduceMul, Nat.reduceSub, Nat.reduceDiv, Nat.reduceMod, Nat.reducePow, Nat.reduceEqDiff, ↓reduceIte, reduceCtorEq, Int.reduceToNat, Int.reduceAdd, Int.reduceSub, Int.reduceMul, loadW]
  exact ⟨_, cellOf hc, _, cellOf hc, _, cellOf hc, _, cellOf hc, _, cellOf hc, _, cellOf hc, hR _ hM⟩
set_option maxHeartbeats 4000000 in
theorem wKinds_cps (w : World) (R : Ending → World → Prop) (hR : ∀ m w', MapW w' m kindsL → w.heap.size ≤ m → Mod [] w w' → R (.returned (.map (some m))) w') : Calls Tryz.prog 83 #[] w R := by
  refine calls_go 4000 okT Tryz.func83 rfl (rs := [.tmp 0]) rfl Tryz.ntmps83 (args := []) ?_
  simp (maxSteps := 1000000) (disch := first | omega | (simp only [sizeAlloc, sizeDrew, sizeSet, sizePut] <;> omega) | fail) only [GS, TT_eq, TTl, Nat.reduceAdd, Nat.reduceMul, Nat.reduceSub, Nat.reduceDiv, Nat.reduceMod, Nat.reducePow, Nat.reduceEqDiff, ↓reduceIte, reduceCtorEq, Int.reduceToNat, Int.reduceAdd, Int.reduceSub, Int.reduceMul]
  refine hold_makeMapW rfl fun w0 hm hM => hold_ops okT (rs := [.tmp 0]) rfl ?_
  generalize hn : w.heap.size = n at *
  simp (maxSteps := 1000000) (disch := first | omega | (simp only [sizeAlloc, sizeDrew, sizeSet, sizePut] <;> omega) | fail) only [GS, TT_eq, TTl, Nat.reduceAdd, Nat.reduceMul, Nat.reduceSub, Nat.reduceDiv, Nat.reduceMod, Nat.reducePow, Nat.reduceEqDiff, ↓reduceIte, reduceCtorEq, Int.reduceToNat, Int.reduceAdd, Int.reduceSub, Int.reduceMul]
  refine hold_insertW okT (.inl rfl) rfl rfl rfl rfl hm rfl rfl rfl fun w10 hm hN => hold_ops okT (rs := [.tmp 0]) rfl ?_
  replace hM := hM.trans hN (fun y hy => .inr (by simp at hy; omega))
  simp (maxSteps := 1000000) (disch := first | omega | (simp only [sizeAlloc, sizeDrew, sizeSet, sizePut] <;> omega) | fail) only [GS, TT_eq, TTl, Nat.reduceAdd, Nat.reduceMul, Nat.reduceSub, Nat.reduceDiv, Nat.reduceMod, Nat.reducePow, Nat.reduceEqDiff, ↓reduceIte, reduceCtorEq, Int.reduceToNat, Int.reduceAdd, Int.reduceSub, Int.reduceMul]
  refine hold_insertW okT (.inl rfl) rfl rfl rfl rfl hm rfl rfl rfl fun w11 hm hN => hold_ops okT (rs := [.tmp 0]) rfl ?_
  replace hM := hM.trans hN (fun y hy => .inr (by simp at hy; omega))
  simp (maxSteps := 1000000) (disch := first | omega | (simp only [sizeAlloc, sizeDrew, sizeSet, sizePut] <;> omega) | fail) only [GS, TT_eq, TTl, Nat.reduceAdd, Nat.reduceMul, Nat.reduceSub, Nat.reduceDiv, Nat.reduceMod, Nat.reducePow, Nat.reduceEqDiff, ↓reduceIte, reduceCtorEq, Int.reduceToNat, Int.reduceAdd, Int.reduceSub, Int.reduceMul]
  refine hold_insertW okT (.inl rfl) rfl rfl rfl rfl hm rfl rfl rfl fun w12 hm hN => hold_ops okT (rs := [.tmp 0]) rfl ?_
  replace hM := hM.trans hN (fun y hy => .inr (by simp at hy; omega))
  simp (maxSteps := 1000000) (disch := first | omega | (simp only [sizeAlloc, sizeDrew, sizeSet, sizePut] <;> omega) | fail) only [GS, TT_eq, TTl, Nat.reduceAdd, Nat.reduceMul, Nat.reduceSub, Nat.reduceDiv, Nat.reduceMod, Nat.reducePow, Nat.reduceEqDiff, ↓reduceIte, reduceCtorEq, Int.reduceToNat, Int.reduceAdd, Int.reduceSub, Int.reduceMul]
  refine ⟨fok148, wPlain_cps [97, 99, 107] _ _ fun v3 hN => .inl ⟨_, rfl, hold_ops okT (rs := [.tmp 0]) rfl ?_⟩⟩
  replace hm := hm.mod hN (by simp)
  replace hM := hM.trans hN (by simp)
  simp (maxSteps := 1000000) (disch := first | omega | (simp only [sizeAlloc, sizeDrew, sizeSet, sizePut] <;> omega) | fail) only [GS, TT_eq, TTl, Nat.reduceAdd, Nat.reduceMul, Nat.reduceSub, Nat.reduceDiv, Nat.reduceMod, Nat.reducePow, Nat.reduceEqDiff, ↓reduceIte, reduceCtorEq, Int.reduceToNat, Int.reduceAdd, Int.reduceSub, Int.reduceMul]
  refine hold_insertW okT (.inl rfl) rfl rfl rfl rfl hm rfl rfl rfl fun w13 hm hN => hold_ops okT (rs := [.tmp 0]) rfl ?_
  replace hM := hM.trans hN (fun y hy => .inr (by simp at hy; omega))
  simp (maxSteps := 1000000) (disch := first | omega | (simp only [sizeAlloc, sizeDrew, sizeSet, sizePut] <;> omega) | fail) only [GS, TT_eq, TTl, Nat.reduceAdd, Nat.reduceMul, Nat.reduceSub, Nat.reduceDiv, Nat.reduceMod, Nat.reducePow, Nat.reduceEqDiff, ↓reduceIte, reduceCtorEq, Int.reduceToNat, Int.reduceAdd, Int.reduceSub, Int.reduceMul]
  refine ⟨fok148, wPlain_cps [113, 117, 101, 114, 121] _ _ fun v4 hN => .inl ⟨_, rfl, hold_ops okT (rs := [.tmp 0]) rfl ?_⟩⟩
  replace hm := hm.mod hN (by simp)
  replace hM := hM.trans hN (by simp)
  simp (maxSteps := 1000000) (disch := first | omega | (simp only [sizeAlloc, sizeDrew, sizeSet, sizePut] <;> omega) | fail) only [GS, TT_eq, TTl, Nat.reduceAdd, Nat.reduceMul, Nat.reduceSub, Nat.reduceDiv, Nat.reduceMod, Nat.reducePow, Nat.reduceEqDiff, ↓reduceIte, reduceCtorEq, Int.reduceToNat, Int.reduceAdd, Int.reduceSub, Int.reduceMul]
  refine hold_insertW okT (.inl rfl) rfl rfl rfl rfl hm rfl rfl rfl fun w14 hm hN => hold_ops okT (rs := [.tmp 0]) rfl ?_
  replace hM := hM.trans hN (fun y hy => .inr (by simp at hy; omega))
  simp (maxSteps := 1000000) (disch := first | omega | (simp only [sizeAlloc, sizeDrew, sizeSet, sizePut] <;> omega) | fail) only [GS, TT_eq, TTl, Nat.reduceAdd, Nat.reduceMul, Nat.reduceSub, Nat.reduceDiv, Nat.reduceMod, Nat.reducePow, Nat.reduceEqDiff, ↓reduceIte, reduceCtorEq, Int.reduceToNat, Int.reduceAdd, Int.reduceSub, Int.reduceMul]
  refine ⟨fok148, wPlain_cps [104, 101, 108, 108, 111] _ _ fun v5 hN => .inl ⟨_, rfl, hold_ops okT (rs := [.tmp 0]) rfl ?_⟩⟩
  replace hm := hm.mod hN (by simp)
  replace hM := hM.trans hN (by simp)
  simp (maxSteps := 1000000) (disch := first | omega | (simp only [sizeAlloc, sizeDrew, sizeSet, sizePut] <;> omega) | fail) only [GS, TT_eq, TTl, Nat.reduceAdd, Nat.reduceMul, Nat.reduceSub, Nat.reduceDiv, Nat.reduceMod, Nat.reducePow, Nat.reduceEqDiff, ↓reduceIte, reduceCtorEq, Int.reduceToNat, Int.reduceAdd, Int.reduceSub, Int.reduceMul]
  refine hold_insertW okT (.inl rfl) rfl rfl rfl rfl hm rfl rfl rfl fun w15 hm hN => hold_ops okT (rs := [.tmp 0]) rfl ?_
  replace hM := hM.trans hN (fun y hy => .inr (by simp at hy; omega))
  simp (maxSteps := 1000000) (disch := first | omega | (simp only [sizeAlloc, sizeDrew, sizeSet, sizePut] <;> omega) | fail) only [GS, TT_eq, TTl, Nat.reduceAdd, Nat.reduceMul, Nat.reduceSub, Nat.reduceDiv, Nat.reduceMod, Nat.reducePow, Nat.reduceEqDiff, ↓reduceIte, reduceCtorEq, Int.reduceToNat, Int.reduceAdd, Int.reduceSub, Int.reduceMul]
  exact hR _ _ hm (by omega) hM
end Go.Proofs.YtpcilobbohokcaaGreat
set_option linter.unusedSimpArgs false
set_option linter.unusedVariables false
set_option maxRecDepth 20000
namespace Go.Proofs.YtpcilobbohokcaaGreat
open Go Go.Wk Go.RowKit
attribute [local irreducible] go Hold
open Go.Lib
theorem rowNew {w : World} {e base : Nat} (l : List Value) (hl : l.length ≤ maxLen) (hb : base ≤ w.heap.size) : (w.alloc (.cells l.toArray e)).ownsRow base e 1 (.slice (some ⟨w.heap.size, 0, none⟩) l.length l.length) l.length l :=
  ⟨by omega, .inr ⟨w.heap.size, l.length, l.toArray, rfl, hb, heapNew, Nat.le_refl _, hl, by simp, by simp⟩⟩
/-- A message. -/
structure Msg where
  k : Int
  tx : Tx
  aud : Int
  mbs : List Mb
  body : List UInt8
  yes : Bool
  tag : List UInt8
def msgC (m : Msg) (sa : Value) : List Value := [.int .u8 m.k, .int .i64 m.tx.1, .int .i64 m.tx.2.1, .int .i64 m.tx.2.2, .int .i64 m.aud, sa, .string ⟨m.body.toArray⟩, .bool m.yes, .string ⟨m.tag.toArray⟩]
def msgV (m : Msg) (sa : Value) : Value := .agg (msgC m sa).toArray
def yesS (b : Bool) : List UInt8 := numE (if b then 1 else 0)
set_option maxRecDepth 20000 in
set_option maxHeartbeats 2000000 in
theorem wYes_cps (m : Msg) (sa : Value) (w : World) (R : Ending → World → Prop) (hR : ∀ w', Mod [] w w' → R (.returned (.string ⟨(yesS m.yes).toArray⟩)) w') : Calls Tryz.prog 141 #[msgV m sa] w R := by
  unfold yesS at hR
  obtain ⟨k, ⟨a, b, c⟩, aud, mbs, body, yes, tag⟩ := m
  unfold msgV msgC
  simp only at hR ⊢
  refine calls_go 4000 okT Tryz.func141 rfl (rs := [.tmp 2]) rfl Tryz.ntmps141 (args := [.agg #[.int .u8 k, .int .i64 a, .int .i64 b, .int .i64 c, .int .i64 aud, sa, .string ⟨body.toArray⟩, .bool yes, .string ⟨tag.toArray⟩]]) ?_
  cases yes
  · simp (maxSteps := 1000000) (disch := first | omega | (simp only [sizeAlloc, sizeDrew, sizeSet, sizePut] <;> omega) | fail) only [GS, TT_eq, TTl, Nat.reduceAdd, Nat.reduceMul, Nat.reduceSub, Nat.reduceDiv, Nat.reduceMod, Nat.reducePow, Nat.reduceEqDiff, ↓reduceIte, reduceCtorEq, Int.reduceToNat, Int.reduceAdd, Int.reduceSub, Int.reduceMul]
    refine ⟨fok110, wNum_cps 0 (by decide) (by decide) _ _ fun w1 hM => .inl ⟨_, rfl, hold_ops okT (rs := [.tmp 2]) rfl ?_⟩⟩
    simp (maxSteps := 1000000) (disch := first | omega | (simp only [sizeAlloc, sizeDrew, sizeSet, sizePut] <;> omega) | fail) only [GS, TT_eq, TTl, Nat.reduceAdd, Nat.reduceMul, Nat.reduceSub, Nat.reduceDiv, Nat.reduceMod, Nat.reducePow, Nat.reduceEqDiff, ↓reduceIte, reduceCtorEq, Int.reduceToNat, Int.reduceAdd, Int.reduceSub, Int.reduceMul]
    exact hR _ (((Mod.refl _ w).alloc _).trans hM (by simp))
  · simp (maxSteps := 1000000) (disch := first | omega | (simp only [sizeAlloc, sizeDrew, sizeSet, sizePut] <;> omega) | fail) only [GS, TT_eq, TTl, Nat.reduceAdd, Nat.reduceMul, Nat.reduceSub, Nat.reduceDiv, Nat.reduceMod, Nat.reducePow, Nat.reduceEqDiff, ↓reduceIte, reduceCtorEq, Int.reduceToNat, Int.reduceAdd, Int.reduceSub, Int.reduceMul]
    refine ⟨fok110, wNum_cps 1 (by decide) (by decide) _ _ fun w1 hM => .inl ⟨_, rfl, hold_ops okT (rs := [.tmp 2]) rfl ?_⟩⟩
    simp (maxSteps := 1000000) (disch := first | omega | (simp only [sizeAlloc, sizeDrew, sizeSet, sizePut] <;> omega) | fail) only [GS, TT_eq, TTl, Nat.reduceAdd, Nat.reduceMul, Nat.reduceSub, Nat.reduceDiv, Nat.reduceMod, Nat.reducePow, Nat.reduceEqDiff, ↓reduceIte, reduceCtorEq, Int.reduceToNat, Int.reduceAdd, Int.reduceSub, Int.reduceMul]
    exact hR _ (((Mod.refl _ w).alloc _).trans hM (by simp))
def unyesO (S : List UInt8) : Option Bool := match numT S with
  | some v => if v < 2 then some (v == 1) else none
  | none => none
set_option maxRecDepth 20000 in
set_option maxHeartbeats 2000000 in
theorem wUnyes_cps (S : List UInt8) (hS : S.length ≤ maxLen) (w : World) (R : Ending → World → Prop) (h1 : ∀ v w', unyesO S = some v → Mod [] w w' → R (.returned (.bool v)) w') (h0 : unyesO S = none → ∀ w', Mod [] w w' → R (.panicked wnoneV) w') : Calls Tryz.prog 143 #[.string ⟨S.toArray⟩] w R := by
  generalize hX : unyesO S = X at h1 h0
  unfold unyesO at hX
  refine calls_go 4000 okT Tryz.func143 rfl (rs := [.tmp 2]) rfl Tryz.ntmps143 (args := [.string ⟨S.toArray⟩]) ?_
  simp (maxSteps := 1000000) (disch := first | omega | (simp only [sizeAlloc, sizeDrew, sizeSet, sizePut] <;> omega) | fail) only [GS, TT_eq, TTl, Nat.reduceAdd, Nat.reduceMul, Nat.reduceSub, Nat.reduceDiv, Nat.reduceMod, Nat.reducePow, Nat.reduceEqDiff, ↓reduceIte, reduceCtorEq, Int.reduceToNat, Int.reduceAdd, Int.reduceSub, Int.reduceMul]
  refine ⟨fok138, wUnnum_cps S hS _ _ (fun v w1 hv hM => .inl ⟨_, rfl, hold_ops okT (rs := [.tmp 2]) rfl ?_⟩) (fun hv w1 hM => .inr ⟨_, rfl, hold_ex okT (rs := [.tmp 2]) rfl ?_⟩)⟩
  · rw [hv] at hX
    simp only at hX
    simp (maxSteps := 1000000) (disch := first | omega | (simp only [sizeAlloc, sizeDrew, sizeSet, sizePut] <;> omega) | fail) only [GS, TT_eq, TTl, Nat.reduceAdd, Nat.reduceMul, Nat.reduceSub, Nat.reduceDiv, Nat.reduceMod, Nat.reducePow, Nat.reduceEqDiff, ↓reduceIte, reduceCtorEq, Int.reduceToNat, Int.reduceAdd, Int.reduceSub, Int.reduceMul]
    refine ⟨fok144, wMust_cps _ _ _ (fun ht => .inl ⟨_, rfl, hold_ops okT (rs := [.tmp 2]) rfl ?_⟩) (fun ht => .inr ⟨_, rfl, hold_ex okT (rs := [.tmp 2]) rfl ?_⟩)⟩
    · have ht' : v < 2 := by simp only [decide_eq_true_eq] at ht; omega
      rw [if_pos ht'] at hX
      simp (maxSteps := 1000000) (disch := first | omega | (simp only [sizeAlloc, sizeDrew, sizeSet, sizePut] <;> omega) | fail) only [GS, TT_eq, TTl, Nat.reduceAdd, Nat.reduceMul, Nat.reduceSub, Nat.reduceDiv, Nat.reduceMod, Nat.reducePow, Nat.reduceEqDiff, ↓reduceIte, reduceCtorEq, Int.reduceToNat, Int.reduceAdd, Int.reduceSub, Int.reduceMul]
      have := h1 _ w1 hX.symm hM
      have hb : (v == 1) = decide ((v : Int) = 1) := by rw [Bool.eq_iff_iff, beq_iff_eq, decide_eq_true_eq]; omega
      rw [hb] at this
      exact this
    · have ht' : ¬ v < 2 := by simp only [decide_eq_false_iff_not] at ht; omega
      rw [if_neg ht'] at hX
      simp (maxSteps := 1000000) (disch := first | omega | (simp only [sizeAlloc, sizeDrew, sizeSet, sizePut] <;> omega) | fail) only [GS, TT_eq, TTl, Nat.reduceAdd, Nat.reduceMul, Nat.reduceSub, Nat.reduceDiv, Nat.reduceMod, Nat.reducePow, Nat.reduceEqDiff, ↓reduceIte, reduceCtorEq, Int.reduceToNat, Int.reduceAdd, Int.reduceSub, Int.reduceMul]
      exact h0 hX.symm _ hM
  · rw [hv] at hX
    simp (maxSteps := 1000000) (disch := first | omega | (simp only [sizeAlloc, sizeDrew, sizeSet, sizePut] <;> omega) | fail) only [GS, TT_eq, TTl, Nat.reduceAdd, Nat.reduceMul, Nat.reduceSub, Nat.reduceDiv, Nat.reduceMod, Nat.reducePow, Nat.reduceEqDiff, ↓reduceIte, reduceCtorEq, Int.reduceToNat, Int.reduceAdd, Int.reduceSub, Int.reduceMul]
    exact h0 hX.symm _ hM
set_option maxHeartbeats 1000000 in
theorem wK7_cps (m : Msg) (sa : Value) (w : World) (R : Ending → World → Prop) (hR : ∀ w', Mod [] w w' → R (.returned (.bool true)) w') : Calls Tryz.prog 145 #[msgV m sa] w R := by
  unfold msgV msgC
  refine calls_go 4000 okT Tryz.func145 rfl (rs := [.tmp 2]) rfl Tryz.ntmps145 (args := [.agg #[.int .u8 m.k, .int .i64 m.tx.1, .int .i64 m.tx.2.1, .int .i64 m.tx.2.2, .int .i64 m.aud, sa, .string ⟨m.body.toArray⟩, .bool m.yes, .string ⟨m.tag.toArray⟩]]) ?_
  simp (maxSteps := 1000000) (disch := first | omega | (simp only [sizeAlloc, sizeDrew, sizeSet, sizePut] <;> omega) | fail) only [GS, TT_eq, TTl, Nat.reduceAdd, Nat.reduceMul, Nat.reduceSub, Nat.reduceDiv, Nat.reduceMod, Nat.reducePow, Nat.reduceEqDiff, ↓reduceIte, reduceCtorEq, Int.reduceToNat, Int.reduceAdd, Int.reduceSub, Int.reduceMul]
  exact hR _ ((Mod.refl _ w).alloc _)
set_option maxHeartbeats 1000000 in
theorem wP1_cps (m : Msg) (sa : Value) (w : World) (R : Ending → World → Prop) (hR : ∀ w', Mod [] w w' → R (.returned (.bool true)) w') : Calls Tryz.prog 169 #[msgV m sa] w R := by
  unfold msgV msgC
  refine calls_go 4000 okT Tryz.func169 rfl (rs := [.tmp 2]) rfl Tryz.ntmps169 (args := [.agg #[.int .u8 m.k, .int .i64 m.tx.1, .int .i64 m.tx.2.1, .int .i64 m.tx.2.2, .int .i64 m.aud, sa, .string ⟨m.body.toArray⟩, .bool m.yes, .string ⟨m.tag.toArray⟩]]) ?_
  simp (maxSteps := 1000000) (disch := first | omega | (simp only [sizeAlloc, sizeDrew, sizeSet, sizePut] <;> omega) | fail) only [GS, TT_eq, TTl, Nat.reduceAdd, Nat.reduceMul, Nat.reduceSub, Nat.reduceDiv, Nat.reduceMod, Nat.reducePow, Nat.reduceEqDiff, ↓reduceIte, reduceCtorEq, Int.reduceToNat, Int.reduceAdd, Int.reduceSub, Int.reduceMul]
  exact hR _ ((Mod.refl _ w).alloc _)
set_option maxHeartbeats 1000000 in
theorem wP2_cps (m : Msg) (sa : Value) (w : World) (R : Ending → World → Prop) (hR : ∀ w', Mod [] w w' → R (.returned (.slice none 0 0)) w') : Calls Tryz.prog 170 #[msgV m sa] w R := by
  unfold msgV msgC
  refine calls_go 4000 okT Tryz.func170 rfl (rs := [.tmp 2]) rfl Tryz.ntmps170 (args := [.agg #[.int .u8 m.k, .int .i64 m.tx.1, .int .i64 m.tx.2.1, .int .i64 m.tx.2.2, .int .i64 m.aud, sa, .string ⟨m.body.toArray⟩, .bool m.yes, .string ⟨m.tag.toArray⟩]]) ?_
  simp (maxSteps := 1000000) (disch := first | omega | (simp only [sizeAlloc, sizeDrew, sizeSet, sizePut] <;> omega) | fail) only [GS, TT_eq, TTl, Nat.reduceAdd, Nat.reduceMul, Nat.reduceSub, Nat.reduceDiv, Nat.reduceMod, Nat.reducePow, Nat.reduceEqDiff, ↓reduceIte, reduceCtorEq, Int.reduceToNat, Int.reduceAdd, Int.reduceSub, Int.reduceMul]
  exact hR _ ((Mod.refl _ w).alloc _)
set_option maxHeartbeats 1000000 in
theorem wP3_cps (a b : Value) (w : World) (R : Ending → World → Prop) (hR : R (.returned (.tuple #[])) w) : Calls Tryz.prog 171 #[a, b] w R := by
  refine calls_go 4000 okT Tryz.func171 rfl (rs := []) rfl Tryz.ntmps171 (args := [a, b]) ?_
  simp (maxSteps := 1000000) (disch := first | omega | (simp only [sizeAlloc, sizeDrew, sizeSet, sizePut] <;> omega) | fail) only [GS, TT_eq, TTl, Nat.reduceAdd, Nat.reduceMul, Nat.reduceSub, Nat.reduceDiv, Nat.reduceMod, Nat.reducePow, Nat.reduceEqDiff, ↓reduceIte, reduceCtorEq, Int.reduceToNat, Int.reduceAdd, Int.reduceSub, Int.reduceMul]
  exact hR
set_option maxHeartbeats 2000000 in
theorem wK8_cps (m : Msg) (sa : Value) (w : World) (R : Ending → World → Prop) (hR : ∀ sv w', w'.ownsRow w.heap.size 9 1 sv 1 [strV (yesS m.yes)] → Mod [] w w' → R (.returned sv) w') : Calls Tryz.prog 146 #[msgV m sa] w R := by
  have hy := wYes_cps m sa
  revert hy
  unfold msgV msgC
  intro hy
  refine calls_go 4000 okT Tryz.func146 rfl (rs := [.tmp 2]) rfl Tryz.ntmps146 (args := [.agg #[.int .u8 m.k, .int .i64 m.tx.1, .int .i64 m.tx.2.1, .int .i64 m.tx.2.2, .int .i64 m.aud, sa, .string ⟨m.body.toArray⟩, .bool m.yes, .string ⟨m.tag.toArray⟩]]) ?_
  simp (maxSteps := 1000000) (disch := first | omega | (simp only [sizeAlloc, sizeDrew, sizeSet, sizePut] <;> omega) | fail) only [GS, TT_eq, TTl, Nat.reduceAdd, Nat.reduceMul, Nat.reduceSub, Nat.reduceDiv, Nat.reduceMod, Nat.reducePow, Nat.reduceEqDiff, ↓reduceIte, reduceCtorEq, Int.reduceToNat, Int.reduceAdd, Int.reduceSub, Int.reduceMul]
  refine ⟨fok141, hy _ _ fun w1 hM => .inl ⟨_, rfl, hold_ops okT (rs := [.tmp 2]) rfl ?_⟩⟩
  simp (maxSteps := 1000000) (disch := first | omega | (simp only [sizeAlloc, sizeDrew, sizeSet, sizePut] <;> omega) | fail) only [GS, TT_eq, TTl, Nat.reduceAdd, Nat.reduceMul, Nat.reduceSub, Nat.reduceDiv, Nat.reduceMod, Nat.reducePow, Nat.reduceEqDiff, ↓reduceIte, reduceCtorEq, Int.reduceToNat, Int.reduceAdd, Int.reduceSub, Int.reduceMul]
  exact hR _ _ (rowNew [strV (yesS m.yes)] (by unfold maxLen; simp) (by have := hM.size; rw [sizeAlloc] at this; omega)) ((((Mod.refl _ w).alloc _).trans hM (by simp)).alloc _)
end Go.Proofs.YtpcilobbohokcaaGreat
set_option linter.unusedSimpArgs false
set_option linter.unusedVariables false
set_option maxRecDepth 20000
namespace Go.Proofs.YtpcilobbohokcaaGreat
open Go Go.Wk Go.RowKit
attribute [local irreducible] go Hold
open Go.Lib
/-- What is asked of a vote. -/
def k4B (m : Msg) : Bool := (m.yes == decide (m.tag ≠ [])) && (!m.yes || checkS m.tag == 0)
set_option maxRecDepth 20000 in
set_option maxHeartbeats 2000000 in
theorem wK4_cps (m : Msg) (sa : Value) (hT : m.tag.length ≤ maxLen) (w : World) (R : Ending → World → Prop) (hR : ∀ w', Mod [] w w' → R (.returned (.bool (k4B m))) w') : Calls Tryz.prog 139 #[msgV m sa] w R := by
  unfold k4B at hR
  obtain ⟨k, ⟨a, b, c⟩, aud, mbs, body, yes, tag⟩ := m
  unfold msgV msgC
  simp only at hR hT ⊢
  refine calls_go 4000 okT Tryz.func139 rfl (rs := [.tmp 2]) rfl Tryz.ntmps139 (args := [.agg #[.int .u8 k, .int .i64 a, .int .i64 b, .int .i64 c, .int .i64 aud, sa, .string ⟨body.toArray⟩, .bool yes, .string ⟨tag.toArray⟩]]) ?_
  cases yes
  · cases tag with
    | nil =>
      simp (maxSteps := 1000000) (disch := first | omega | (simp only [sizeAlloc, sizeDrew, sizeSet, sizePut] <;> omega) | fail) only [GS, TT_eq, TTl, Nat.reduceAdd, Nat.reduceMul, Nat.reduceSub, Nat.reduceDiv, Nat.reduceMod, Nat.reducePow, Nat.reduceEqDiff, ↓reduceIte, reduceCtorEq, Int.reduceToNat, Int.reduceAdd, Int.reduceSub, Int.reduceMul]
      exact hR _ ((Mod.refl _ w).alloc _)
    | cons x l =>
      simp (maxSteps := 1000000) (disch := first | omega | (simp only [sizeAlloc, sizeDrew, sizeSet, sizePut] <;> omega) | fail) only [GS, TT_eq, TTl, Nat.reduceAdd, Nat.reduceMul, Nat.reduceSub, Nat.reduceDiv, Nat.reduceMod, Nat.reducePow, Nat.reduceEqDiff, ↓reduceIte, reduceCtorEq, Int.reduceToNat, Int.reduceAdd, Int.reduceSub, Int.reduceMul]
      exact hR _ ((Mod.refl _ w).alloc _)
  · cases tag with
    | nil =>
      simp (maxSteps := 1000000) (disch := first | omega | (simp only [sizeAlloc, sizeDrew, sizeSet, sizePut] <;> omega) | fail) only [GS, TT_eq, TTl, Nat.reduceAdd, Nat.reduceMul, Nat.reduceSub, Nat.reduceDiv, Nat.reduceMod, Nat.reducePow, Nat.reduceEqDiff, ↓reduceIte, reduceCtorEq, Int.reduceToNat, Int.reduceAdd, Int.reduceSub, Int.reduceMul]
      exact hR _ ((Mod.refl _ w).alloc _)
    | cons x l =>
      simp (maxSteps := 1000000) (disch := first | omega | (simp only [sizeAlloc, sizeDrew, sizeSet, sizePut] <;> omega) | fail) only [GS, TT_eq, TTl, Nat.reduceAdd, Nat.reduceMul, Nat.reduceSub, Nat.reduceDiv, Nat.reduceMod, Nat.reducePow, Nat.reduceEqDiff, ↓reduceIte, reduceCtorEq, Int.reduceToNat, Int.reduceAdd, Int.reduceSub, Int.reduceMul]
      refine ⟨fok104, tCheck_cps (x :: l) hT _ _ fun w1 hM => .inl ⟨_, rfl, hold_ops okT (rs := [.tmp 2]) rfl ?_⟩⟩
      simp (maxSteps := 1000000) (disch := first | omega | (simp only [sizeAlloc, sizeDrew, sizeSet, sizePut] <;> omega) | fail) only [GS, TT_eq, TTl, Nat.reduceAdd, Nat.reduceMul, Nat.reduceSub, Nat.reduceDiv, Nat.reduceMod, Nat.reducePow, Nat.reduceEqDiff, ↓reduceIte, reduceCtorEq, Int.reduceToNat, Int.reduceAdd, Int.reduceSub, Int.reduceMul]
      have := hR w1 (((Mod.refl _ w).alloc _).trans hM (by simp))
      have hb : (true == decide (x :: l ≠ []) && (!true || checkS (x :: l) == 0)) = decide (checkS (x :: l) = 0) := by rw [Bool.eq_iff_iff]; simp
      rw [hb] at this
      exact this
/-- What is asked of a prepare. -/
def k1B (m : Msg) : Bool := orgB m.aud && mbB m.tx.1 m.mbs && decide (checkS m.body = 0)
set_option maxRecDepth 20000 in
set_option maxHeartbeats 4000000 in
theorem wK1_cps (m : Msg) (sa : Value) (hB : m.body.length ≤ maxLen) (hl : m.mbs.length ≤ 1000000) (hd : ∀ x ∈ m.mbs, x.2.length ≤ maxLen) (w : World) (ha : Rd w 2 sa m.mbs.length (m.mbs.flatMap mbC)) (R : Ending → World → Prop) (hR : ∀ w', Mod [] w w' → R (.returned (.bool (k1B m))) w') : Calls Tryz.prog 135 #[msgV m sa] w R := by
  unfold k1B at hR
  obtain ⟨k, ⟨a, b, c⟩, aud, mbs, body, yes, tag⟩ := m
  unfold msgV msgC
  simp only at hR hB hl hd ha ⊢
  refine calls_go 4000 okT Tryz.func135 rfl (rs := [.tmp 2]) rfl Tryz.ntmps135 (args := [.agg #[.int .u8 k, .int .i64 a, .int .i64 b, .int .i64 c, .int .i64 aud, sa, .string ⟨body.toArray⟩, .bool yes, .string ⟨tag.toArray⟩]]) ?_
  simp (maxSteps := 1000000) (disch := first | omega | (simp only [sizeAlloc, sizeDrew, sizeSet, sizePut] <;> omega) | fail) only [GS, TT_eq, TTl, Nat.reduceAdd, Nat.reduceMul, Nat.reduceSub, Nat.reduceDiv, Nat.reduceMod, Nat.reducePow, Nat.reduceEqDiff, ↓reduceIte, reduceCtorEq, Int.reduceToNat, Int.reduceAdd, Int.reduceSub, Int.reduceMul]
  refine ⟨fok111, wOrg_cps aud _ _ (.inl ⟨_, rfl, hold_ops okT (rs := [.tmp 2]) rfl ?_⟩)⟩
  have hM0 := (Mod.refl [] w).alloc (.cells #[.int .u8 k, .int .i64 a, .int .i64 b, .int .i64 c, .int .i64 aud, sa, .string ⟨body.toArray⟩, .bool yes, .string ⟨tag.toArray⟩] 35)
  have hh := heapNew (w := w) (o := .cells #[.int .u8 k, .int .i64 a, .int .i64 b, .int .i64 c, .int .i64 aud, sa, .string ⟨body.toArray⟩, .bool yes, .string ⟨tag.toArray⟩] 35)
  generalize w.alloc (.cells #[.int .u8 k, .int .i64 a, .int .i64 b, .int .i64 c, .int .i64 aud, sa, .string ⟨body.toArray⟩, .bool yes, .string ⟨tag.toArray⟩] 35) = w1 at hM0 hh ⊢
  generalize w.heap.size = n at hh ⊢
  cases ho : orgB aud
  · rw [ho] at hR
    simp (maxSteps := 1000000) (disch := first | omega | (simp only [sizeAlloc, sizeDrew, sizeSet, sizePut] <;> omega) | fail) only [GS, TT_eq, TTl, Nat.reduceAdd, Nat.reduceMul, Nat.reduceSub, Nat.reduceDiv, Nat.reduceMod, Nat.reducePow, Nat.reduceEqDiff, ↓reduceIte, reduceCtorEq, Int.reduceToNat, Int.reduceAdd, Int.reduceSub, Int.reduceMul]
    exact hR _ hM0
  · rw [ho] at hR
    simp only [Bool.true_and] at hR
    have c1 := fun o => cellOf (o := o) hh
    simp (maxSteps := 1000000) (disch := first | omega | (simp only [sizeAlloc, sizeDrew, sizeSet, sizePut] <;> omega) | fail) only [GS, TT_eq, TTl, Nat.reduceAdd, Nat.reduceMul, Nat.reduceSub, Nat.reduceDiv, Nat.reduceMod, Nat.reducePow, Nat.reduceEqDiff, ↓reduceIte, reduceCtorEq, Int.reduceToNat, Int.reduceAdd, Int.reduceSub, Int.reduceMul, c1]
    refine ⟨fok44, wMayMembers_cps (a, b, c) sa mbs _ _ hl hd (ha.mod hM0 (by simp)) fun w2 hM => .inl ⟨_, rfl, hold_ops okT (rs := [.tmp 2]) rfl ?_⟩⟩
    have hh2 := hM.get hh (by simp)
    have c2 := fun o => cellOf (o := o) hh2
    have hM2 := hM0.trans hM (by simp)
    cases hm : mbB a mbs
    · simp only [hm, Bool.false_and] at hR
      simp (maxSteps := 1000000) (disch := first | omega | (simp only [sizeAlloc, sizeDrew, sizeSet, sizePut] <;> omega) | fail) only [GS, TT_eq, TTl, Nat.reduceAdd, Nat.reduceMul, Nat.reduceSub, Nat.reduceDiv, Nat.reduceMod, Nat.reducePow, Nat.reduceEqDiff, ↓reduceIte, reduceCtorEq, Int.reduceToNat, Int.reduceAdd, Int.reduceSub, Int.reduceMul, c2, hm]
      exact hR _ hM2
    · simp only [hm, Bool.true_and] at hR
      simp (maxSteps := 1000000) (disch := first | omega | (simp only [sizeAlloc, sizeDrew, sizeSet, sizePut] <;> omega) | fail) only [GS, TT_eq, TTl, Nat.reduceAdd, Nat.reduceMul, Nat.reduceSub, Nat.reduceDiv, Nat.reduceMod, Nat.reducePow, Nat.reduceEqDiff, ↓reduceIte, reduceCtorEq, Int.reduceToNat, Int.reduceAdd, Int.reduceSub, Int.reduceMul, c2, hm]
      refine ⟨fok104, tCheck_cps body hB _ _ fun w3 hM3 => .inl ⟨_, rfl, hold_ops okT (rs := [.tmp 2]) rfl ?_⟩⟩
      simp (maxSteps := 1000000) (disch := first | omega | (simp only [sizeAlloc, sizeDrew, sizeSet, sizePut] <;> omega) | fail) only [GS, TT_eq, TTl, Nat.reduceAdd, Nat.reduceMul, Nat.reduceSub, Nat.reduceDiv, Nat.reduceMod, Nat.reducePow, Nat.reduceEqDiff, ↓reduceIte, reduceCtorEq, Int.reduceToNat, Int.reduceAdd, Int.reduceSub, Int.reduceMul]
      exact hR _ (hM2.trans hM3 (by simp))
end Go.Proofs.YtpcilobbohokcaaGreat
set_option linter.unusedSimpArgs false
set_option linter.unusedVariables false
set_option maxRecDepth 20000
namespace Go.Proofs.YtpcilobbohokcaaGreat
open Go Go.Wk Go.RowKit
attribute [local irreducible] go Hold
open Go.Lib
set_option maxRecDepth 20000 in
set_option maxHeartbeats 4000000 in
theorem wK9_cps (m : Msg) (sa : Value) (p : Nat) (t0 : List UInt8) (l : List (List UInt8)) (rv : Value) (h0 : t0.length ≤ maxLen) (w : World) (hh : w.heap[p]? = some (.cells (msgC m sa).toArray 35 (0, 0))) (hr : Rd w 1 rv (t0 :: l).length ((t0 :: l).map strV)) (R : Ending → World → Prop)
    (h1 : ∀ v w', unyesO t0 = some v → w'.heap[p]? = some (.cells (msgC { m with yes := v } sa).toArray 35 (0, 0)) → Mod [p] w w' → R (.returned (.tuple #[])) w') (hN : unyesO t0 = none → ∀ w', Mod [] w w' → R (.panicked wnoneV) w') : Calls Tryz.prog 147 #[.pointer (some ⟨p, 0, none⟩), rv] w R := by
  obtain ⟨b2, o2, c2, e2, _, g2⟩ := hr.at (by simp) (by simp)
  have f0 : w.cell? ⟨b2, o2, none⟩ = some (.string ⟨t0.toArray⟩) := g2 0 _ rfl
  subst e2
  refine calls_go 4000 okT Tryz.func147 rfl (rs := []) rfl Tryz.ntmps147 (args := [.pointer (some ⟨p, 0, none⟩), .slice (some ⟨b2, o2, none⟩) (t0 :: l).length c2]) ?_
  simp (maxSteps := 1000000) (disch := first | omega | (simp only [sizeAlloc, sizeDrew, sizeSet, sizePut] <;> omega) | fail) only [GS, TT_eq, TTl, Nat.reduceAdd, Nat.reduceMul, Nat.reduceSub, Nat.reduceDiv, Nat.reduceMod, Nat.reducePow, Nat.reduceEqDiff, ↓reduceIte, reduceCtorEq, Int.reduceToNat, Int.reduceAdd, Int.reduceSub, Int.reduceMul, f0]
  refine ⟨fok143, wUnyes_cps t0 h0 _ _ (fun v w1 hv hM => .inl ⟨_, rfl, hold_ops okT (rs := []) rfl ?_⟩) (fun hv w1 hM => .inr ⟨_, rfl, hold_ex okT (rs := []) rfl ?_⟩)⟩
  · have hh1 := hM.get hh (by simp)
    have hc := fun o => cellOf (o := o) hh1
    have hf := fun o => frozenOf (o := o) hh1
    unfold msgC at hc
    simp (maxSteps := 1000000) (disch := first | omega | (simp only [sizeAlloc, sizeDrew, sizeSet, sizePut] <;> omega) | fail) only [GS, TT_eq, TTl, Nat.reduceAdd, Nat.reduceMul, Nat.reduceSub, Nat.reduceDiv, Nat.reduceMod, Nat.reducePow, Nat.reduceEqDiff, ↓reduceIte, reduceCtorEq, Int.reduceToNat, Int.reduceAdd, Int.reduceSub, Int.reduceMul, hc, hf]
    exact h1 v _ hv (by rw [heapSet hh1]; rfl) ((hM.mono (by simp)).set (.inl (by simp)) _)
  · simp (maxSteps := 1000000) (disch := first | omega | (simp only [sizeAlloc, sizeDrew, sizeSet, sizePut] <;> omega) | fail) only [GS, TT_eq, TTl, Nat.reduceAdd, Nat.reduceMul, Nat.reduceSub, Nat.reduceDiv, Nat.reduceMod, Nat.reducePow, Nat.reduceEqDiff, ↓reduceIte, reduceCtorEq, Int.reduceToNat, Int.reduceAdd, Int.reduceSub, Int.reduceMul]
    exact hN hv _ hM
def k6O (t0 : List UInt8) (n : Nat) (t1 : List UInt8) : Option (Bool × List UInt8) := match unyesO t0 with
  | some v => if v = decide (n = 2) then some (v, if v = true then t1 else []) else none
  | none => none
set_option maxRecDepth 20000 in
set_option maxHeartbeats 4000000 in
theorem wK6_cps (m : Msg) (sa : Value) (p : Nat) (t0 : List UInt8) (l : List (List UInt8)) (rv : Value) (htag : m.tag = []) (h0 : t0.length ≤ maxLen) (hl : l.length ≤ 100) (w : World) (hh : w.heap[p]? = some (.cells (msgC m sa).toArray 35 (0, 0))) (hr : Rd w 1 rv (t0 :: l).length ((t0 :: l).map strV)) (hpr : ∀ b o c, rv = .slice (some ⟨b, o, none⟩) (t0 :: l).length c → b ≠ p) (R : Ending → World → Prop)
    (h1 : ∀ v t w', k6O t0 (l.length + 1) (l.getD 0 []) = some (v, t) → w'.heap[p]? = some (.cells (msgC { m with yes := v, tag := t } sa).toArray 35 (0, 0)) → Mod [p] w w' → R (.returned (.tuple #[])) w') (hN : k6O t0 (l.length + 1) (l.getD 0 []) = none → ∀ w', Mod [p] w w' → R (.panicked wnoneV) w') : Calls Tryz.prog 142 #[.pointer (some ⟨p, 0, none⟩), rv] w R := by
  generalize hX : k6O t0 (l.length + 1) (l.getD 0 []) = X at h1 hN
  unfold k6O at hX
  obtain ⟨b2, o2, c2, e2, _, g2⟩ := hr.at (by simp) (by simp)
  have f0 : w.cell? ⟨b2, o2, none⟩ = some (.string ⟨t0.toArray⟩) := g2 0 _ rfl
  have hbp := hpr _ _ _ e2
  subst e2
  refine calls_go 4000 okT Tryz.func142 rfl (rs := []) rfl Tryz.ntmps142 (args := [.pointer (some ⟨p, 0, none⟩), .slice (some ⟨b2, o2, none⟩) (t0 :: l).length c2]) ?_
  simp (maxSteps := 1000000) (disch := first | omega | (simp only [sizeAlloc, sizeDrew, sizeSet, sizePut] <;> omega) | fail) only [GS, TT_eq, TTl, Nat.reduceAdd, Nat.reduceMul, Nat.reduceSub, Nat.reduceDiv, Nat.reduceMod, Nat.reducePow, Nat.reduceEqDiff, ↓reduceIte, reduceCtorEq, Int.reduceToNat, Int.reduceAdd, Int.reduceSub, Int.reduceMul, f0]
  refine ⟨fok143, wUnyes_cps t0 h0 _ _ (fun v w1 hv hM => .inl ⟨_, rfl, hold_ops okT (rs := []) rfl ?_⟩) (fun hv w1 hM => .inr ⟨_, rfl, hold_ex okT (rs := []) rfl ?_⟩)⟩
  · rw [hv] at hX
    simp only at hX
    have hh1 := hM.get hh (by simp)
    have hc := fun o => cellOf (o := o) hh1
    have hf := fun o => frozenOf (o := o) hh1
    unfold msgC at hc
    simp (maxSteps := 1000000) (disch := first | omega | (simp only [sizeAlloc, sizeDrew, sizeSet, sizePut] <;> omega) | fail) only [GS, TT_eq, TTl, Nat.reduceAdd, Nat.reduceMul, Nat.reduceSub, Nat.reduceDiv, Nat.reduceMod, Nat.reducePow, Nat.reduceEqDiff, ↓reduceIte, reduceCtorEq, Int.reduceToNat, Int.reduceAdd, Int.reduceSub, Int.reduceMul, hc, hf, List.length_cons]
    have hh2 : (w1.setCell ⟨p, 7, none⟩ (.bool v)).heap[p]? = some (.cells (msgC { m with yes := v } sa).toArray 35 (0, 0)) := by rw [heapSet hh1]; rfl
    have hM2 : Mod [p] w (w1.setCell ⟨p, 7, none⟩ (.bool v)) := (hM.mono (by simp)).set (.inl (by simp)) _
    have hk : ∀ (o' : Nat) (u : Value), w1.cell? ⟨b2, o', none⟩ = some u → (w1.setCell ⟨p, 7, none⟩ (.bool v)).cell? ⟨b2, o', none⟩ = some u := fun o' u h => by rw [cellSetN (Ne.symm hbp)]; exact h
    generalize w1.setCell ⟨p, 7, none⟩ (.bool v) = w2 at hh2 hM2 hk ⊢
    have hc2 := fun o => cellOf (o := o) hh2
    have hf2 := fun o => frozenOf (o := o) hh2
    unfold msgC at hc2
    refine ⟨fok144, wMust_cps _ _ _ (fun ht => .inl ⟨_, rfl, hold_ops okT (rs := []) rfl ?_⟩) (fun ht => .inr ⟨_, rfl, hold_ex okT (rs := []) rfl ?_⟩)⟩
    · have hv2 : v = decide (l.length + 1 = 2) := by
        have : decide (((l.length + 1 : Nat) : Int) = 2) = decide (l.length + 1 = 2) := by rw [decide_eq_decide]; omega
        rw [this] at ht
        revert ht
        cases v <;> cases decide (l.length + 1 = 2) <;> simp [beq2, bnot]
      rw [if_pos hv2] at hX
      cases v
      · simp only [Bool.false_eq_true, if_false] at hX
        simp (maxSteps := 1000000) (disch := first | omega | (simp only [sizeAlloc, sizeDrew, sizeSet, sizePut] <;> omega) | fail) only [GS, TT_eq, TTl, Nat.reduceAdd, Nat.reduceMul, Nat.reduceSub, Nat.reduceDiv, Nat.reduceMod, Nat.reducePow, Nat.reduceEqDiff, ↓reduceIte, reduceCtorEq, Int.reduceToNat, Int.reduceAdd, Int.reduceSub, Int.reduceMul, hc2, hf2]
        refine h1 _ _ _ hX.symm ?_ hM2
        rw [hh2]
        unfold msgC
        rw [htag]
      · simp only [if_true] at hX
        have h2 := of_decide_eq_true hv2.symm
        obtain ⟨t1, rfl⟩ : ∃ t1, l = [t1] := by
          match l, h2 with
          | [t1], _ => exact ⟨t1, rfl⟩
        have f1 : w2.cell? ⟨b2, o2 + 1, none⟩ = some (.string ⟨t1.toArray⟩) := hk _ _ (cellM (g2 1 _ rfl) hM)
        simp (maxSteps := 1000000) (disch := first | omega | (simp only [sizeAlloc, sizeDrew, sizeSet, sizePut] <;> omega) | fail) only [GS, TT_eq, TTl, Nat.reduceAdd, Nat.reduceMul, Nat.reduceSub, Nat.reduceDiv, Nat.reduceMod, Nat.reducePow, Nat.reduceEqDiff, ↓reduceIte, reduceCtorEq, Int.reduceToNat, Int.reduceAdd, Int.reduceSub, Int.reduceMul, hc2, hf2, f1]
        refine h1 _ _ _ hX.symm ?_ (hM2.set (p := ⟨p, 8, none⟩) (.inl (by simp)) _)
        rw [heapSet hh2]
        rfl
    · have hv2 : ¬ v = decide (l.length + 1 = 2) := by
        have : decide (((l.length + 1 : Nat) : Int) = 2) = decide (l.length + 1 = 2) := by rw [decide_eq_decide]; omega
        rw [this] at ht
        revert ht
        cases v <;> cases decide (l.length + 1 = 2) <;> simp [beq2, bnot]
      rw [if_neg hv2] at hX
      simp (maxSteps := 1000000) (disch := first | omega | (simp only [sizeAlloc, sizeDrew, sizeSet, sizePut] <;> omega) | fail) only [GS, TT_eq, TTl, Nat.reduceAdd, Nat.reduceMul, Nat.reduceSub, Nat.reduceDiv, Nat.reduceMod, Nat.reducePow, Nat.reduceEqDiff, ↓reduceIte, reduceCtorEq, Int.reduceToNat, Int.reduceAdd, Int.reduceSub, Int.reduceMul]
      exact hN hX.symm _ hM2
  · rw [hv] at hX
    simp (maxSteps := 1000000) (disch := first | omega | (simp only [sizeAlloc, sizeDrew, sizeSet, sizePut] <;> omega) | fail) only [GS, TT_eq, TTl, Nat.reduceAdd, Nat.reduceMul, Nat.reduceSub, Nat.reduceDiv, Nat.reduceMod, Nat.reducePow, Nat.reduceEqDiff, ↓reduceIte, reduceCtorEq, Int.reduceToNat, Int.reduceAdd, Int.reduceSub, Int.reduceMul]
    exact hN hX.symm _ (hM.mono (by simp))
end Go.Proofs.YtpcilobbohokcaaGreat
set_option linter.unusedSimpArgs false
set_option linter.unusedVariables false
set_option maxRecDepth 20000
namespace Go.Proofs.YtpcilobbohokcaaGreat
open Go Go.Wk Go.RowKit
attribute [local irreducible] go Hold
open Go.Lib
def k5L (m : Msg) : List (List UInt8) := if m.yes = true then [yesS m.yes, m.tag] else [yesS m.yes]
set_option maxRecDepth 20000 in
set_option maxHeartbeats 4000000 in
theorem wK5_cps (m : Msg) (sa : Value) (w : World) (R : Ending → World → Prop) (hR : ∀ sv w', w'.ownsRow w.heap.size 9 1 sv (k5L m).length ((k5L m).map strV) → Mod [] w w' → R (.returned sv) w') : Calls Tryz.prog 140 #[msgV m sa] w R := by
  have hy := wYes_cps m sa
  unfold k5L at hR
  obtain ⟨k, ⟨a, b, c⟩, aud, mbs, body, yes, tag⟩ := m
  unfold msgV msgC at hy ⊢
  simp only at hR hy ⊢
  refine calls_go 4000 okT Tryz.func140 rfl (rs := [.tmp 2]) rfl Tryz.ntmps140 (args := [.agg #[.int .u8 k, .int .i64 a, .int .i64 b, .int .i64 c, .int .i64 aud, sa, .string ⟨body.toArray⟩, .bool yes, .string ⟨tag.toArray⟩]]) ?_
  cases yes
  · simp only [Bool.false_eq_true, if_false] at hR
    simp (maxSteps := 1000000) (disch := first | omega | (simp only [sizeAlloc, sizeDrew, sizeSet, sizePut] <;> omega) | fail) only [GS, TT_eq, TTl, Nat.reduceAdd, Nat.reduceMul, Nat.reduceSub, Nat.reduceDiv, Nat.reduceMod, Nat.reducePow, Nat.reduceEqDiff, ↓reduceIte, reduceCtorEq, Int.reduceToNat, Int.reduceAdd, Int.reduceSub, Int.reduceMul]
    refine ⟨fok141, hy _ _ fun w1 hM => .inl ⟨_, rfl, hold_ops okT (rs := [.tmp 2]) rfl ?_⟩⟩
    simp (maxSteps := 1000000) (disch := first | omega | (simp only [sizeAlloc, sizeDrew, sizeSet, sizePut] <;> omega) | fail) only [GS, TT_eq, TTl, Nat.reduceAdd, Nat.reduceMul, Nat.reduceSub, Nat.reduceDiv, Nat.reduceMod, Nat.reducePow, Nat.reduceEqDiff, ↓reduceIte, reduceCtorEq, Int.reduceToNat, Int.reduceAdd, Int.reduceSub, Int.reduceMul]
    exact hR _ _ (rowNew [strV (yesS false)] (by unfold maxLen; simp) (by have := hM.size; rw [sizeAlloc] at this; omega)) ((((Mod.refl _ w).alloc _).trans hM (by simp)).alloc _)
  · simp only [if_true] at hR
    simp (maxSteps := 1000000) (disch := first | omega | (simp only [sizeAlloc, sizeDrew, sizeSet, sizePut] <;> omega) | fail) only [GS, TT_eq, TTl, Nat.reduceAdd, Nat.reduceMul, Nat.reduceSub, Nat.reduceDiv, Nat.reduceMod, Nat.reducePow, Nat.reduceEqDiff, ↓reduceIte, reduceCtorEq, Int.reduceToNat, Int.reduceAdd, Int.reduceSub, Int.reduceMul]
    have hM0 := (Mod.refl [] w).alloc (.cells #[.int .u8 k, .int .i64 a, .int .i64 b, .int .i64 c, .int .i64 aud, sa, .string ⟨body.toArray⟩, .bool true, .string ⟨tag.toArray⟩] 35)
    have hh := heapNew (w := w) (o := .cells #[.int .u8 k, .int .i64 a, .int .i64 b, .int .i64 c, .int .i64 aud, sa, .string ⟨body.toArray⟩, .bool true, .string ⟨tag.toArray⟩] 35)
    generalize w.alloc (.cells #[.int .u8 k, .int .i64 a, .int .i64 b, .int .i64 c, .int .i64 aud, sa, .string ⟨body.toArray⟩, .bool true, .string ⟨tag.toArray⟩] 35) = w1 at hM0 hh ⊢
    generalize hn : w.heap.size = n at *
    refine hold_draw okT (rs := [.tmp 2]) rfl [0, 1, 0, 4, 15, 31] [0, 2, 3, 1, 4, 5] (by kernel_rfl) (by kernel_rfl) ?_
    have hh1 : (w1.drewN 1).heap[n]? = _ := hh
    have hM1 := hM0.drewN 1
    generalize w1.drewN 1 = w2 at *
    have c2 := fun o => cellOf (o := o) hh1
    simp (maxSteps := 1000000) (disch := first | omega | (simp only [sizeAlloc, sizeDrew, sizeSet, sizePut] <;> omega) | fail) only [GS, TT_eq, TTl, Nat.reduceAdd, Nat.reduceMul, Nat.reduceSub, Nat.reduceDiv, Nat.reduceMod, Nat.reducePow, Nat.reduceEqDiff, ↓reduceIte, reduceCtorEq, Int.reduceToNat, Int.reduceAdd, Int.reduceSub, Int.reduceMul, c2]
    refine ⟨fok141, hy _ _ fun w3 hM3 => .inl ⟨_, rfl, cellM (c2 8) hM3, hold_dops okT (rs := [.tmp 2]) rfl ?_⟩⟩
    simp (maxSteps := 1000000) (disch := first | omega | (simp only [sizeAlloc, sizeDrew, sizeSet, sizePut] <;> omega) | fail) only [GS, TT_eq, TTl, Nat.reduceAdd, Nat.reduceMul, Nat.reduceSub, Nat.reduceDiv, Nat.reduceMod, Nat.reducePow, Nat.reduceEqDiff, ↓reduceIte, reduceCtorEq, Int.reduceToNat, Int.reduceAdd, Int.reduceSub, Int.reduceMul]
    have hM13 := hM1.trans hM3 (by simp)
    exact hR _ _ (rowNew [strV (yesS true), strV tag] (by unfold maxLen; simp) (by have := hM13.size; omega)) (hM13.alloc _)
end Go.Proofs.YtpcilobbohokcaaGreat
set_option linter.unusedSimpArgs false
set_option linter.unusedVariables false
set_option maxRecDepth 20000
namespace Go.Proofs.YtpcilobbohokcaaGreat
open Go Go.Wk Go.RowKit
attribute [local irreducible] go Hold
open Go.Lib
theorem kcase (k : Int) : k = 1 ∨ k = 2 ∨ k = 3 ∨ (¬ k = 1 ∧ ¬ k = 2 ∧ ¬ k = 3) := by omega
def idleB (m : Msg) : Bool :=
  if ¬ m.k = 1 ∧ (¬ m.aud = 0 ∨ ¬ m.mbs.length = 0 ∨ ¬ m.body = []) then false
  else if (¬ (m.k = 2 ∨ m.k = 3) ∧ m.yes = true) ∨ (¬ m.k = 2 ∧ ¬ m.tag = []) then false
  else decide (¬ m.k = 6 ∨ m.tx = (0, 0, 0))
set_option maxRecDepth 20000 in
set_option maxHeartbeats 16000000 in
theorem wIdle_cps (m : Msg) (sa : Value) (hl : m.mbs.length ≤ 1000000) (w : World) (ha : Rd w 2 sa m.mbs.length (m.mbs.flatMap mbC)) (R : Ending → World → Prop) (hR : ∀ w', Mod [] w w' → R (.returned (.bool (idleB m))) w') : Calls Tryz.prog 90 #[msgV m sa] w R := by
  obtain ⟨k, ⟨a, b, c⟩, aud, mbs, body, yes, tag⟩ := m
  unfold msgV msgC
  simp only at hR hl ha ⊢
  obtain ⟨la, lc, rfl⟩ := ha.slice
  refine calls_go 4000 okT Tryz.func90 rfl (rs := [.tmp 2]) rfl Tryz.ntmps90 (args := [.agg #[.int .u8 k, .int .i64 a, .int .i64 b, .int .i64 c, .int .i64 aud, .slice la mbs.length lc, .string ⟨body.toArray⟩, .bool yes, .string ⟨tag.toArray⟩]]) ?_
  have hbnd : bnd (decide (a = 0)) (bnd (decide (b = 0)) (bnd (decide (c = 0)) true)) = (decide (a = 0) && (decide (b = 0) && decide (c = 0))) := by cases decide (a = 0) <;> cases decide (b = 0) <;> cases decide (c = 0) <;> rfl
  rcases kcase k with rfl | rfl | rfl | ⟨k1, k2, k3⟩
  · skip
    simp (maxSteps := 1000000) (disch := first | omega | (simp only [sizeAlloc, sizeDrew, sizeSet, sizePut] <;> omega) | fail) only [GS, TT_eq, TTl, Nat.reduceAdd, Nat.reduceMul, Nat.reduceSub, Nat.reduceDiv, Nat.reduceMod, Nat.reducePow, Nat.reduceEqDiff, ↓reduceIte, reduceCtorEq, Int.reduceToNat, Int.reduceAdd, Int.reduceSub, Int.reduceMul]
    refine ⟨by kernel_rfl, fun d => ?_⟩
    cases yes with
    | false =>
      cases tag with
      | nil =>
        simp [idleB] at hR
        simp (maxSteps := 1000000) (disch := first | omega | (simp only [sizeAlloc, sizeDrew, sizeSet, sizePut] <;> omega) | fail) only [GS, TT_eq, TTl, Nat.reduceAdd, Nat.reduceMul, Nat.reduceSub, Nat.reduceDiv, Nat.reduceMod, Nat.reducePow, Nat.reduceEqDiff, ↓reduceIte, reduceCtorEq, Int.reduceToNat, Int.reduceAdd, Int.reduceSub, Int.reduceMul]
        first | exact hR _ (((Mod.refl [] w).alloc _).drewN _) | (rw [hbnd]; exact hR _ (((Mod.refl [] w).alloc _).drewN _))
      | cons _ _ =>
        simp [idleB] at hR
        simp (maxSteps := 1000000) (disch := first | omega | (simp only [sizeAlloc, sizeDrew, sizeSet, sizePut] <;> omega) | fail) only [GS, TT_eq, TTl, Nat.reduceAdd, Nat.reduceMul, Nat.reduceSub, Nat.reduceDiv, Nat.reduceMod, Nat.reducePow, Nat.reduceEqDiff, ↓reduceIte, reduceCtorEq, Int.reduceToNat, Int.reduceAdd, Int.reduceSub, Int.reduceMul]
        first | exact hR _ (((Mod.refl [] w).alloc _).drewN _) | (rw [hbnd]; exact hR _ (((Mod.refl [] w).alloc _).drewN _))
    | true =>
      simp [idleB] at hR
      simp (maxSteps := 1000000) (disch := first | omega | (simp only [sizeAlloc, sizeDrew, sizeSet, sizePut] <;> omega) | fail) only [GS, TT_eq, TTl, Nat.reduceAdd, Nat.reduceMul, Nat.reduceSub, Nat.reduceDiv, Nat.reduceMod, Nat.reducePow, Nat.reduceEqDiff, ↓reduceIte, reduceCtorEq, Int.reduceToNat, Int.reduceAdd, Int.reduceSub, Int.reduceMul]
      first | exact hR _ (((Mod.refl [] w).alloc _).drewN _) | (rw [hbnd]; exact hR _ (((Mod.refl [] w).alloc _).drewN _))
  · skip
    simp (maxSteps := 1000000) (disch := first | omega | (simp only [sizeAlloc, sizeDrew, sizeSet, sizePut] <;> omega) | fail) only [GS, TT_eq, TTl, Nat.reduceAdd, Nat.reduceMul, Nat.reduceSub, Nat.reduceDiv, Nat.reduceMod, Nat.reducePow, Nat.reduceEqDiff, ↓reduceIte, reduceCtorEq, Int.reduceToNat, Int.reduceAdd, Int.reduceSub, Int.reduceMul]
    refine ⟨by kernel_rfl, fun d => ?_⟩
    by_cases h_aud : aud = 0
    · skip
      by_cases h_len : ((mbs.length : Nat) : Int) = 0
      · skip
        have h_l2 : mbs.length = 0 := by omega
        cases body with
        | nil =>
          simp [idleB, h_aud, h_len, h_l2] at hR
          simp (maxSteps := 1000000) (disch := first | omega | (simp only [sizeAlloc, sizeDrew, sizeSet, sizePut] <;> omega) | fail) only [GS, TT_eq, TTl, Nat.reduceAdd, Nat.reduceMul, Nat.reduceSub, Nat.reduceDiv, Nat.reduceMod, Nat.reducePow, Nat.reduceEqDiff, ↓reduceIte, reduceCtorEq, Int.reduceToNat, Int.reduceAdd, Int.reduceSub, Int.reduceMul, h_aud, h_len]
          first | exact hR _ (((Mod.refl [] w).alloc _).drewN _) | (rw [hbnd]; exact hR _ (((Mod.refl [] w).alloc _).drewN _))
        | cons _ _ =>
          simp [idleB, h_aud, h_len, h_l2] at hR
          simp (maxSteps := 1000000) (disch := first | omega | (simp only [sizeAlloc, sizeDrew, sizeSet, sizePut] <;> omega) | fail) only [GS, TT_eq, TTl, Nat.reduceAdd, Nat.reduceMul, Nat.reduceSub, Nat.reduceDiv, Nat.reduceMod, Nat.reducePow, Nat.reduceEqDiff, ↓reduceIte, reduceCtorEq, Int.reduceToNat, Int.reduceAdd, Int.reduceSub, Int.reduceMul, h_aud, h_len]
          first | exact hR _ (((Mod.refl [] w).alloc _).drewN _) | (rw [hbnd]; exact hR _ (((Mod.refl [] w).alloc _).drewN _))
      · skip
        have h_l2 : ¬ mbs.length = 0 := by omega
        simp [idleB, h_aud, h_len, h_l2] at hR
        simp (maxSteps := 1000000) (disch := first | omega | (simp only [sizeAlloc, sizeDrew, sizeSet, sizePut] <;> omega) | fail) only [GS, TT_eq, TTl, Nat.reduceAdd, Nat.reduceMul, Nat.reduceSub, Nat.reduceDiv, Nat.reduceMod, Nat.reducePow, Nat.reduceEqDiff, ↓reduceIte, reduceCtorEq, Int.reduceToNat, Int.reduceAdd, Int.reduceSub, Int.reduceMul, h_aud, h_len]
        first | exact hR _ (((Mod.refl [] w).alloc _).drewN _) | (rw [hbnd]; exact hR _ (((Mod.refl [] w).alloc _).drewN _))
    · skip
      simp [idleB, h_aud] at hR
      simp (maxSteps := 1000000) (disch := first | omega | (simp only [sizeAlloc, sizeDrew, sizeSet, sizePut] <;> omega) | fail) only [GS, TT_eq, TTl, Nat.reduceAdd, Nat.reduceMul, Nat.reduceSub, Nat.reduceDiv, Nat.reduceMod, Nat.reducePow, Nat.reduceEqDiff, ↓reduceIte, reduceCtorEq, Int.reduceToNat, Int.reduceAdd, Int.reduceSub, Int.reduceMul, h_aud]
      first | exact hR _ (((Mod.refl [] w).alloc _).drewN _) | (rw [hbnd]; exact hR _ (((Mod.refl [] w).alloc _).drewN _))
  · skip
    simp (maxSteps := 1000000) (disch := first | omega | (simp only [sizeAlloc, sizeDrew, sizeSet, sizePut] <;> omega) | fail) only [GS, TT_eq, TTl, Nat.reduceAdd, Nat.reduceMul, Nat.reduceSub, Nat.reduceDiv, Nat.reduceMod, Nat.reducePow, Nat.reduceEqDiff, ↓reduceIte, reduceCtorEq, Int.reduceToNat, Int.reduceAdd, Int.reduceSub, Int.reduceMul]
    refine ⟨by kernel_rfl, fun d => ?_⟩
    by_cases h_aud : aud = 0
    · skip
      by_cases h_len : ((mbs.length : Nat) : Int) = 0
      · skip
        have h_l2 : mbs.length = 0 := by omega
        cases body with
        | nil =>
          cases tag with
          | nil =>
            simp [idleB, h_aud, h_len, h_l2] at hR
            simp (maxSteps := 1000000) (disch := first | omega | (simp only [sizeAlloc, sizeDrew, sizeSet, sizePut] <;> omega) | fail) only [GS, TT_eq, TTl, Nat.reduceAdd, Nat.reduceMul, Nat.reduceSub, Nat.reduceDiv, Nat.reduceMod, Nat.reducePow, Nat.reduceEqDiff, ↓reduceIte, reduceCtorEq, Int.reduceToNat, Int.reduceAdd, Int.reduceSub, Int.reduceMul, h_aud, h_len]
            first | exact hR _ (((Mod.refl [] w).alloc _).drewN _) | (rw [hbnd]; exact hR _ (((Mod.refl [] w).alloc _).drewN _))
          | cons _ _ =>
            simp [idleB, h_aud, h_len, h_l2] at hR
            simp (maxSteps := 1000000) (disch := first | omega | (simp only [sizeAlloc, sizeDrew, sizeSet, sizePut] <;> omega) | fail) only [GS, TT_eq, TTl, Nat.reduceAdd, Nat.reduceMul, Nat.reduceSub, Nat.reduceDiv, Nat.reduceMod, Nat.reducePow, Nat.reduceEqDiff, ↓reduceIte, reduceCtorEq, Int.reduceToNat, Int.reduceAdd, Int.reduceSub, Int.reduceMul, h_aud, h_len]
            first | exact hR _ (((Mod.refl [] w).alloc _).drewN _) | (rw [hbnd]; exact hR _ (((Mod.refl [] w).alloc _).drewN _))
        | cons _ _ =>
          simp [idleB, h_aud, h_len, h_l2] at hR
          simp (maxSteps := 1000000) (disch := first | omega | (simp only [sizeAlloc, sizeDrew, sizeSet, sizePut] <;> omega) | fail) only [GS, TT_eq, TTl, Nat.reduceAdd, Nat.reduceMul, Nat.reduceSub, Nat.reduceDiv, Nat.reduceMod, Nat.reducePow, Nat.reduceEqDiff, ↓reduceIte, reduceCtorEq, Int.reduceToNat, Int.reduceAdd, Int.reduceSub, Int.reduceMul, h_aud, h_len]
          first | exact hR _ (((Mod.refl [] w).alloc _).drewN _) | (rw [hbnd]; exact hR _ (((Mod.refl [] w).alloc _).drewN _))
      · skip
        have h_l2 : ¬ mbs.length = 0 := by omega
        simp [idleB, h_aud, h_len, h_l2] at hR
        simp (maxSteps := 1000000) (disch := first | omega | (simp only [sizeAlloc, sizeDrew, sizeSet, sizePut] <;> omega) | fail) only [GS, TT_eq, TTl, Nat.reduceAdd, Nat.reduceMul, Nat.reduceSub, Nat.reduceDiv, Nat.reduceMod, Nat.reducePow, Nat.reduceEqDiff, ↓reduceIte, reduceCtorEq, Int.reduceToNat, Int.reduceAdd, Int.reduceSub, Int.reduceMul, h_aud, h_len]
        first | exact hR _ (((Mod.refl [] w).alloc _).drewN _) | (rw [hbnd]; exact hR _ (((Mod.refl [] w).alloc _).drewN _))
    · skip
      simp [idleB, h_aud] at hR
      simp (maxSteps := 1000000) (disch := first | omega | (simp only [sizeAlloc, sizeDrew, sizeSet, sizePut] <;> omega) | fail) only [GS, TT_eq, TTl, Nat.reduceAdd, Nat.reduceMul, Nat.reduceSub, Nat.reduceDiv, Nat.reduceMod, Nat.reducePow, Nat.reduceEqDiff, ↓reduceIte, reduceCtorEq, Int.reduceToNat, Int.reduceAdd, Int.reduceSub, Int.reduceMul, h_aud]
      first | exact hR _ (((Mod.refl [] w).alloc _).drewN _) | (rw [hbnd]; exact hR _ (((Mod.refl [] w).alloc _).drewN _))
  · skip
    simp (maxSteps := 1000000) (disch := first | omega | (simp only [sizeAlloc, sizeDrew, sizeSet, sizePut] <;> omega) | fail) only [GS, TT_eq, TTl, Nat.reduceAdd, Nat.reduceMul, Nat.reduceSub, Nat.reduceDiv, Nat.reduceMod, Nat.reducePow, Nat.reduceEqDiff, ↓reduceIte, reduceCtorEq, Int.reduceToNat, Int.reduceAdd, Int.reduceSub, Int.reduceMul, k1, k2, k3]
    refine ⟨by kernel_rfl, fun d => ?_⟩
    by_cases h_aud : aud = 0
    · skip
      by_cases h_len : ((mbs.length : Nat) : Int) = 0
      · skip
        have h_l2 : mbs.length = 0 := by omega
        cases body with
        | nil =>
          cases yes with
          | false =>
            cases tag with
            | nil =>
              by_cases h_k6 : k = 6
              · skip
                simp [idleB, k1, k2, k3, h_aud, h_len, h_l2, h_k6] at hR
                simp (maxSteps := 1000000) (disch := first | omega | (simp only [sizeAlloc, sizeDrew, sizeSet, sizePut] <;> omega) | fail) only [GS, TT_eq, TTl, Nat.reduceAdd, Nat.reduceMul, Nat.reduceSub, Nat.reduceDiv, Nat.reduceMod, Nat.reducePow, Nat.reduceEqDiff, ↓reduceIte, reduceCtorEq, Int.reduceToNat, Int.reduceAdd, Int.reduceSub, Int.reduceMul, k1, k2, k3, h_aud, h_len, h_k6]
                first | exact hR _ (((Mod.refl [] w).alloc _).drewN _) | (rw [hbnd]; exact hR _ (((Mod.refl [] w).alloc _).drewN _))
              · skip
                simp [idleB, k1, k2, k3, h_aud, h_len, h_l2, h_k6] at hR
                simp (maxSteps := 1000000) (disch := first | omega | (simp only [sizeAlloc, sizeDrew, sizeSet, sizePut] <;> omega) | fail) only [GS, TT_eq, TTl, Nat.reduceAdd, Nat.reduceMul, Nat.reduceSub, Nat.reduceDiv, Nat.reduceMod, Nat.reducePow, Nat.reduceEqDiff, ↓reduceIte, reduceCtorEq, Int.reduceToNat, Int.reduceAdd, Int.reduceSub, Int.reduceMul, k1, k2, k3, h_aud, h_len, h_k6]
                first | exact hR _ (((Mod.refl [] w).alloc _).drewN _) | (rw [hbnd]; exact hR _ (((Mod.refl [] w).alloc _).drewN _))
            | cons _ _ =>
              simp [idleB, k1, k2, k3, h_aud, h_len, h_l2] at hR
              simp (maxSteps := 1000000) (disch := first | omega | (simp only [sizeAlloc, sizeDrew, sizeSet, sizePut] <;> omega) | fail) only [GS, TT_eq, TTl, Nat.reduceAdd, Nat.reduceMul, Nat.reduceSub, Nat.reduceDiv, Nat.reduceMod, Nat.reducePow, Nat.reduceEqDiff, ↓reduceIte, reduceCtorEq, Int.reduceToNat, Int.reduceAdd, Int.reduceSub, Int.reduceMul, k1, k2, k3, h_aud, h_len]
              first | exact hR _ (((Mod.refl [] w).alloc _).drewN _) | (rw [hbnd]; exact hR _ (((Mod.refl [] w).alloc _).drewN _))
          | true =>
            simp [idleB, k1, k2, k3, h_aud, h_len, h_l2] at hR
            simp (maxSteps := 1000000) (disch := first | omega | (simp only [sizeAlloc, sizeDrew, sizeSet, sizePut] <;> omega) | fail) only [GS, TT_eq, TTl, Nat.reduceAdd, Nat.reduceMul, Nat.reduceSub, Nat.reduceDiv, Nat.reduceMod, Nat.reducePow, Nat.reduceEqDiff, ↓reduceIte, reduceCtorEq, Int.reduceToNat, Int.reduceAdd, Int.reduceSub, Int.reduceMul, k1, k2, k3, h_aud, h_len]
            first | exact hR _ (((Mod.refl [] w).alloc _).drewN _) | (rw [hbnd]; exact hR _ (((Mod.refl [] w).alloc _).drewN _))
        | cons _ _ =>
          simp [idleB, k1, k2, k3, h_aud, h_len, h_l2] at hR
          simp (maxSteps := 1000000) (disch := first | omega | (simp only [sizeAlloc, sizeDrew, sizeSet, sizePut] <;> omega) | fail) only [GS, TT_eq, TTl, Nat.reduceAdd, Nat.reduceMul, Nat.reduceSub, Nat.reduceDiv, Nat.reduceMod, Nat.reducePow, Nat.reduceEqDiff, ↓reduceIte, reduceCtorEq, Int.reduceToNat, Int.reduceAdd, Int.reduceSub, Int.reduceMul, k1, k2, k3, h_aud, h_len]
          first | exact hR _ (((Mod.refl [] w).alloc _).drewN _) | (rw [hbnd]; exact hR _ (((Mod.refl [] w).alloc _).drewN _))
      · skip
        have h_l2 : ¬ mbs.length = 0 := by omega
        simp [idleB, k1, k2, k3, h_aud, h_len, h_l2] at hR
        simp (maxSteps := 1000000) (disch := first | omega | (simp only [sizeAlloc, sizeDrew, sizeSet, sizePut] <;> omega) | fail) only [GS, TT_eq, TTl, Nat.reduceAdd, Nat.reduceMul, Nat.reduceSub, Nat.reduceDiv, Nat.reduceMod, Nat.reducePow, Nat.reduceEqDiff, ↓reduceIte, reduceCtorEq, Int.reduceToNat, Int.reduceAdd, Int.reduceSub, Int.reduceMul, k1, k2, k3, h_aud, h_len]
        first | exact hR _ (((Mod.refl [] w).alloc _).drewN _) | (rw [hbnd]; exact hR _ (((Mod.refl [] w).alloc _).drewN _))
    · skip
      simp [idleB, k1, k2, k3, h_aud] at hR
      simp (maxSteps := 1000000) (disch := first | omega | (simp only [sizeAlloc, sizeDrew, sizeSet, sizePut] <;> omega) | fail) only [GS, TT_eq, TTl, Nat.reduceAdd, Nat.reduceMul, Nat.reduceSub, Nat.reduceDiv, Nat.reduceMod, Nat.reducePow, Nat.reduceEqDiff, ↓reduceIte, reduceCtorEq, Int.reduceToNat, Int.reduceAdd, Int.reduceSub, Int.reduceMul, k1, k2, k3, h_aud]
      first | exact hR _ (((Mod.refl [] w).alloc _).drewN _) | (rw [hbnd]; exact hR _ (((Mod.refl [] w).alloc _).drewN _))
end Go.Proofs.YtpcilobbohokcaaGreat
set_option linter.unusedSimpArgs false
set_option linter.unusedVariables false
set_option maxRecDepth 20000
namespace Go.Proofs.YtpcilobbohokcaaGreat
open Go Go.Wk Go.RowKit
attribute [local irreducible] go Hold
open Go.Lib
def k2L (m : Msg) : List (List UInt8) := [numE m.aud, (mbrsS m.tx.1 m.mbs).1, m.body]
set_option maxRecDepth 20000 in
set_option maxHeartbeats 4000000 in
theorem wK2_cps (m : Msg) (sa : Value) (h1 : -9223372036854775808 ≤ m.aud) (h2 : m.aud ≤ 9223372036854775807) (hl : m.mbs.length ≤ 1000000) (hd : ∀ x ∈ m.mbs, x.2.length ≤ maxLen) (w : World) (ha : Rd w 2 sa m.mbs.length (m.mbs.flatMap mbC)) (R : Ending → World → Prop) (hR : ∀ sv w', w'.ownsRow w.heap.size 9 1 sv (k2L m).length ((k2L m).map strV) → Mod [] w w' → R (.returned sv) w') : Calls Tryz.prog 136 #[msgV m sa] w R := by
  unfold k2L at hR
  obtain ⟨k, ⟨a, b, c⟩, aud, mbs, body, yes, tag⟩ := m
  unfold msgV msgC
  simp only at hR h1 h2 hl hd ha ⊢
  refine calls_go 4000 okT Tryz.func136 rfl (rs := [.tmp 2]) rfl Tryz.ntmps136 (args := [.agg #[.int .u8 k, .int .i64 a, .int .i64 b, .int .i64 c, .int .i64 aud, sa, .string ⟨body.toArray⟩, .bool yes, .string ⟨tag.toArray⟩]]) ?_
  simp (maxSteps := 1000000) (disch := first | omega | (simp only [sizeAlloc, sizeDrew, sizeSet, sizePut] <;> omega) | fail) only [GS, TT_eq, TTl, Nat.reduceAdd, Nat.reduceMul, Nat.reduceSub, Nat.reduceDiv, Nat.reduceMod, Nat.reducePow, Nat.reduceEqDiff, ↓reduceIte, reduceCtorEq, Int.reduceToNat, Int.reduceAdd, Int.reduceSub, Int.reduceMul]
  have hM0 := (Mod.refl [] w).alloc (.cells #[.int .u8 k, .int .i64 a, .int .i64 b, .int .i64 c, .int .i64 aud, sa, .string ⟨body.toArray⟩, .bool yes, .string ⟨tag.toArray⟩] 35)
  have hh := heapNew (w := w) (o := .cells #[.int .u8 k, .int .i64 a, .int .i64 b, .int .i64 c, .int .i64 aud, sa, .string ⟨body.toArray⟩, .bool yes, .string ⟨tag.toArray⟩] 35)
  generalize w.alloc (.cells #[.int .u8 k, .int .i64 a, .int .i64 b, .int .i64 c, .int .i64 aud, sa, .string ⟨body.toArray⟩, .bool yes, .string ⟨tag.toArray⟩] 35) = w1 at hM0 hh ⊢
  generalize hn : w.heap.size = n at *
  refine ⟨fok40, wMembers_cps (a, b, c) sa mbs _ _ hl hd (ha.mod hM0 (by simp)) fun w2 hM => .inl ⟨_, rfl, hold_ops okT (rs := [.tmp 2]) rfl ?_⟩⟩
  have hh2 := hM.get hh (by simp)
  have hM2 := hM0.trans hM (by simp)
  simp only at hR ⊢
  generalize mbrsS a mbs = P at hR ⊢
  obtain ⟨t, e⟩ := P
  unfold stV
  simp (maxSteps := 1000000) (disch := first | omega | (simp only [sizeAlloc, sizeDrew, sizeSet, sizePut] <;> omega) | fail) only [GS, TT_eq, TTl, Nat.reduceAdd, Nat.reduceMul, Nat.reduceSub, Nat.reduceDiv, Nat.reduceMod, Nat.reducePow, Nat.reduceEqDiff, ↓reduceIte, reduceCtorEq, Int.reduceToNat, Int.reduceAdd, Int.reduceSub, Int.reduceMul]
  refine hold_draw okT (rs := [.tmp 2]) rfl [0, 1, 3, 0, 0, 16, 63, 127] [0, 1, 3, 4, 5, 2, 6, 7] (by kernel_rfl) (by kernel_rfl) ?_
  have hh3 : (w2.drewN 1).heap[n]? = _ := hh2
  have hM3 := hM2.drewN 1
  generalize w2.drewN 1 = w3 at *
  have c3 := fun o => cellOf (o := o) hh3
  simp (maxSteps := 1000000) (disch := first | omega | (simp only [sizeAlloc, sizeDrew, sizeSet, sizePut] <;> omega) | fail) only [GS, TT_eq, TTl, Nat.reduceAdd, Nat.reduceMul, Nat.reduceSub, Nat.reduceDiv, Nat.reduceMod, Nat.reducePow, Nat.reduceEqDiff, ↓reduceIte, reduceCtorEq, Int.reduceToNat, Int.reduceAdd, Int.reduceSub, Int.reduceMul, c3]
  refine ⟨fok110, wNum_cps aud h1 h2 _ _ fun w4 hM4 => .inl ⟨_, rfl, cellM (c3 6) hM4, hold_dops okT (rs := [.tmp 2]) rfl ?_⟩⟩
  simp (maxSteps := 1000000) (disch := first | omega | (simp only [sizeAlloc, sizeDrew, sizeSet, sizePut] <;> omega) | fail) only [GS, TT_eq, TTl, Nat.reduceAdd, Nat.reduceMul, Nat.reduceSub, Nat.reduceDiv, Nat.reduceMod, Nat.reducePow, Nat.reduceEqDiff, ↓reduceIte, reduceCtorEq, Int.reduceToNat, Int.reduceAdd, Int.reduceSub, Int.reduceMul]
  have hM34 := hM3.trans hM4 (by simp)
  exact hR _ _ (rowNew [strV (numE aud), strV t, strV body] (by unfold maxLen; simp) (by have := hM34.size; omega)) (hM34.alloc _)
end Go.Proofs.YtpcilobbohokcaaGreat
set_option linter.unusedSimpArgs false
set_option linter.unusedVariables false
set_option maxRecDepth 20000
namespace Go.Proofs.YtpcilobbohokcaaGreat
open Go Go.Wk Go.RowKit
attribute [local irreducible] go Hold
open Go.Lib
set_option maxRecDepth 20000 in
set_option maxHeartbeats 4000000 in
theorem wK3_cps (m : Msg) (sa : Value) (p : Nat) (t0 t1 t2 : List UInt8) (rv : Value) (z0 : t0.length ≤ maxLen) (z1 : t1.length ≤ maxLen) (w : World) (hh : w.heap[p]? = some (.cells (msgC m sa).toArray 35 (0, 0))) (hr : Rd w 1 rv 3 ([t0, t1, t2].map strV)) (hpr : ∀ b o c, rv = .slice (some ⟨b, o, none⟩) 3 c → b ≠ p) (R : Ending → World → Prop)
    (h1 : ∀ v l sv w', numT t0 = some v → unmbS m.tx.1 t1 = some l → w'.heap[p]? = some (.cells (msgC { m with aud := (v : Int), mbs := l, body := t2 } sv).toArray 35 (0, 0)) → w'.ownsRow w.heap.size 126 2 sv l.length (l.flatMap mbC) → Mod [p] w w' → R (.returned (.tuple #[])) w')
    (hN : (numT t0 = none ∨ unmbS m.tx.1 t1 = none) → ∀ w', Mod [] w w' → R (.panicked wnoneV) w') : Calls Tryz.prog 137 #[.pointer (some ⟨p, 0, none⟩), rv] w R := by
  obtain ⟨k, ⟨a, b, c⟩, aud, mbs, body, yes, tag⟩ := m
  unfold msgC at hh h1
  simp only at hh h1 hN
  have hp := (Array.getElem?_eq_some_iff.1 hh).1
  obtain ⟨b2, o2, c2, e2, _, g2⟩ := hr.at (by simp) (by simp)
  have hbp := hpr _ _ _ e2
  have f0 : w.cell? ⟨b2, o2, none⟩ = some (.string ⟨t0.toArray⟩) := g2 0 _ rfl
  have f1 : w.cell? ⟨b2, o2 + 1, none⟩ = some (.string ⟨t1.toArray⟩) := g2 1 _ rfl
  have f2 : w.cell? ⟨b2, o2 + 2, none⟩ = some (.string ⟨t2.toArray⟩) := g2 2 _ rfl
  subst e2
  refine calls_go 4000 okT Tryz.func137 rfl (rs := []) rfl Tryz.ntmps137 (args := [.pointer (some ⟨p, 0, none⟩), .slice (some ⟨b2, o2, none⟩) 3 c2]) ?_
  simp (maxSteps := 1000000) (disch := first | omega | (simp only [sizeAlloc, sizeDrew, sizeSet, sizePut] <;> omega) | fail) only [GS, TT_eq, TTl, Nat.reduceAdd, Nat.reduceMul, Nat.reduceSub, Nat.reduceDiv, Nat.reduceMod, Nat.reducePow, Nat.reduceEqDiff, ↓reduceIte, reduceCtorEq, Int.reduceToNat, Int.reduceAdd, Int.reduceSub, Int.reduceMul]
  refine hold_draw okT (rs := []) rfl [0, 0, 0, 0, 8, 24, 56, 0, 128, 384, 896, 0, 2048, 6144, 16376, 0, 32768, 98304, 262137, 524281, 1048569, 2097147, 4194299, 8388603, 16777215, 33554431, 67108863] [0, 1, 2, 3, 4, 5, 7, 8, 9, 10, 11, 12, 13, 15, 16, 17, 6, 14, 18, 19, 20, 21, 22, 23, 24, 25, 26] (by kernel_rfl) (by kernel_rfl) ?_
  have f0' : (w.drewN 1).cell? ⟨b2, o2, none⟩ = some (.string ⟨t0.toArray⟩) := f0
  have f1' : (w.drewN 1).cell? ⟨b2, o2 + 1, none⟩ = some (.string ⟨t1.toArray⟩) := f1
  have f2' : (w.drewN 1).cell? ⟨b2, o2 + 2, none⟩ = some (.string ⟨t2.toArray⟩) := f2
  have hh1 : (w.drewN 1).heap[p]? = _ := hh
  have hM1 := (Mod.refl [] w).drewN 1
  generalize w.drewN 1 = w1 at *
  have c1 := fun o => cellOf (o := o) hh1
  have x1 := fun o => frozenOf (o := o) hh1
  simp (maxSteps := 1000000) (disch := first | omega | (simp only [sizeAlloc, sizeDrew, sizeSet, sizePut] <;> omega) | fail) only [GS, TT_eq, TTl, Nat.reduceAdd, Nat.reduceMul, Nat.reduceSub, Nat.reduceDiv, Nat.reduceMod, Nat.reducePow, Nat.reduceEqDiff, ↓reduceIte, reduceCtorEq, Int.reduceToNat, Int.reduceAdd, Int.reduceSub, Int.reduceMul, c1, x1, f0', f1', f2']
  have hag : ∀ w' : World, Mod [] w1 w' → aggO (consO (w'.cell? ⟨p, 1, none⟩) (consO (w'.cell? ⟨p, 2, none⟩) (consO (w'.cell? ⟨p, 3, none⟩) (some [])))) = some (.agg #[.int .i64 a, .int .i64 b, .int .i64 c]) := by
    intro w' hm
    rw [cellM (show w1.cell? ⟨p, 1, none⟩ = some (.int .i64 a) from c1 1) hm, cellM (show w1.cell? ⟨p, 2, none⟩ = some (.int .i64 b) from c1 2) hm, cellM (show w1.cell? ⟨p, 3, none⟩ = some (.int .i64 c) from c1 3) hm]
    rfl
  refine ⟨fok138, wUnnum_cps t0 z0 _ _ (fun v w2 hv hM => .inl ⟨_, rfl, ⟨cellM f2' hM, cellM f1' hM, hag _ hM⟩, hold_dops okT (rs := []) rfl ?_⟩) (fun hv w2 hM => .inr ⟨_, rfl, fun fs' => hold_ex okT (rs := []) rfl ?_⟩)⟩
  · have f2'' := cellM f2' hM
    have hh2 := hM.get hh1 (by simp)
    have hM2 := hM1.trans hM (by simp)
    clear hag
    simp (maxSteps := 1000000) (disch := first | omega | (simp only [sizeAlloc, sizeDrew, sizeSet, sizePut] <;> omega) | fail) only [GS, TT_eq, TTl, Nat.reduceAdd, Nat.reduceMul, Nat.reduceSub, Nat.reduceDiv, Nat.reduceMod, Nat.reducePow, Nat.reduceEqDiff, ↓reduceIte, reduceCtorEq, Int.reduceToNat, Int.reduceAdd, Int.reduceSub, Int.reduceMul]
    refine ⟨fok115, wUnmembers_cps (a, b, c) t1 z1 _ _ (fun l sv w3 hl hown hM => .inl ⟨_, rfl, cellM f2'' hM, hold_dops okT (rs := []) rfl ?_⟩) (fun hl w3 hM => .inr ⟨_, rfl, fun fs' => hold_ex okT (rs := []) rfl ?_⟩)⟩
    · have hh3 := hM.get hh2 (by simp)
      have hM3 := hM2.trans hM (by simp)
      have c3 := fun o => cellOf (o := o) hh3
      have x3 := fun o => frozenOf (o := o) hh3
      have hsv := ownsRow_one hown
      simp (maxSteps := 1000000) (disch := first | omega | (simp only [sizeAlloc, sizeDrew, sizeSet, sizePut] <;> omega) | fail) only [GS, TT_eq, TTl, Nat.reduceAdd, Nat.reduceMul, Nat.reduceSub, Nat.reduceDiv, Nat.reduceMod, Nat.reducePow, Nat.reduceEqDiff, ↓reduceIte, reduceCtorEq, Int.reduceToNat, Int.reduceAdd, Int.reduceSub, Int.reduceMul, c3, x3, cellsL_one hsv, hsv]
      refine h1 v l sv _ hv hl ?_ (ownsRow_mod (S := [p]) (ownsRow_base hown (hM2.size)) (((((Mod.refl [p] w3).set (p := ⟨p, 4, none⟩) (.inl (by simp)) (.int .i64 v)).set (p := ⟨p, 5, none⟩) (.inl (by simp)) sv).set (p := ⟨p, 6, none⟩) (.inl (by simp)) (.string ⟨t2.toArray⟩))) (by simpa using hp)) ((((hM3.mono (by simp)).set (p := ⟨p, 4, none⟩) (.inl (by simp)) (.int .i64 v)).set (p := ⟨p, 5, none⟩) (.inl (by simp)) sv).set (p := ⟨p, 6, none⟩) (.inl (by simp)) (.string ⟨t2.toArray⟩))
      rw [heapSet (heapSet (heapSet hh3))]
      rfl
    · simp (maxSteps := 1000000) (disch := first | omega | (simp only [sizeAlloc, sizeDrew, sizeSet, sizePut] <;> omega) | fail) only [GS, TT_eq, TTl, Nat.reduceAdd, Nat.reduceMul, Nat.reduceSub, Nat.reduceDiv, Nat.reduceMod, Nat.reducePow, Nat.reduceEqDiff, ↓reduceIte, reduceCtorEq, Int.reduceToNat, Int.reduceAdd, Int.reduceSub, Int.reduceMul]
      exact hN (.inr hl) _ (hM2.trans hM (by simp))
  · simp (maxSteps := 1000000) (disch := first | omega | (simp only [sizeAlloc, sizeDrew, sizeSet, sizePut] <;> omega) | fail) only [GS, TT_eq, TTl, Nat.reduceAdd, Nat.reduceMul, Nat.reduceSub, Nat.reduceDiv, Nat.reduceMod, Nat.reducePow, Nat.reduceEqDiff, ↓reduceIte, reduceCtorEq, Int.reduceToNat, Int.reduceAdd, Int.reduceSub, Int.reduceMul]
    exact hN (.inl hv) _ (hM1.trans hM (by simp))
end Go.Proofs.YtpcilobbohokcaaGreat
