/-
  ballot.Check, the reference's May of a ballot; part: the ballot of a transaction (walks).
-/
import Derived.Test.YthnlmmkhehphiaaGreatDoorEaPar1
set_option linter.unusedSimpArgs false
set_option linter.unusedVariables false
set_option maxRecDepth 20000
namespace Go.Proofs.YthnlmmkhehphiaaGreatDoor
open Go Go.Wk Go.RowKit
attribute [local irreducible] go Hold
open Go.Lib
theorem bx6 {w W : World} {t : Nat} {a0 a1 a2 a3 a4 a5 : Value} (h : w.alloc (.cells #[a0, a1, a2, a3, a4, a5] t) = W) : W.heap[w.heap.size]? = some (.cells #[a0, a1, a2, a3, a4, a5] t (0, 0)) ∧ Mod [] w W := by
  subst h
  exact ⟨heapNew, (Mod.refl [] w).alloc _⟩
/-- Whether a ballot may be. -/
def balB (x : Tx) (aud : Int) (mbs : List Mb) (org : Int) : Bool := txB x && orgB aud && mbB x.1 mbs && mbs.any fun m => decide (m.1 = org)
def balV (x : Tx) (aud : Int) (ms : Value) (org : Int) : Value := .agg #[.int .i64 x.1, .int .i64 x.2.1, .int .i64 x.2.2, .int .i64 aud, ms, .int .i64 org]
theorem any_of {mbs : List Mb} {org : Int} {k : Nat} (hk : k < mbs.length) (h : mbs[k].1 = org) : (mbs.any fun m => decide (m.1 = org)) = true := List.any_eq_true.2 ⟨mbs[k], List.getElem_mem hk, decide_eq_true h⟩
theorem any_no {mbs : List Mb} {org : Int} (h : ∀ m ∈ mbs, m.1 ≠ org) : (mbs.any fun m => decide (m.1 = org)) = false := List.any_eq_false.2 fun m hm => by simpa using h m hm
set_option maxRecDepth 20000 in
set_option maxHeartbeats 8000000 in
theorem balCheck_cps (x : Tx) (aud : Int) (ms : Value) (mbs : List Mb) (org : Int) (w : World) (hl : mbs.length ≤ 1000000) (hd : ∀ m ∈ mbs, m.2.length ≤ maxLen) (ha : Rd w 2 ms mbs.length (mbs.flatMap mbC)) (R : Ending → World → Prop) (hR : ∀ w', Mod [] w w' → R (.returned (.int .i64 (if balB x aud mbs org = true then 0 else 2))) w') : Calls Tryz.prog 31 #[balV x aud ms org] w R := by
  have hMT := wMayTxn_cps x
  have hMM := wMayMembers_cps x ms mbs
  have os : ms.oneCell' = true := by obtain ⟨a, c, e⟩ := ha.slice; rw [e]; rfl
  unfold balB at hR
  obtain ⟨a, b, c⟩ := x
  unfold txV at hMT hMM
  unfold balV
  simp only at hR hMT hMM ⊢
  refine calls_go 4000 okT Tryz.func31 rfl (rs := [.tmp 2]) rfl Tryz.ntmps31 (args := [.agg #[.int .i64 a, .int .i64 b, .int .i64 c, .int .i64 aud, ms, .int .i64 org]]) ?_
  simp (maxSteps := 1000000) (disch := first | omega | (simp only [sizeAlloc, sizeDrew, sizeSet, sizePut] <;> omega) | fail) only [GS, TT_eq, TTl, Nat.reduceAdd, Nat.reduceMul, Nat.reduceSub, Nat.reduceDiv, Nat.reduceMod, Nat.reducePow, Nat.reduceEqDiff, ↓reduceIte, reduceCtorEq, Int.reduceToNat, Int.reduceAdd, Int.reduceSub, Int.reduceMul, os, cellsL_one os]
  generalize hW : w.alloc (.cells #[.int .i64 a, .int .i64 b, .int .i64 c, .int .i64 aud, ms, .int .i64 org] 26) = w1
  obtain ⟨hA, hM0⟩ := bx6 hW
  clear hW
  generalize hn : w.heap.size = n at *
  refine ⟨fok71, hMT _ _ fun w2 hM2 => .inl ⟨_, rfl, hold_ops okT (rs := [.tmp 2]) rfl ?_⟩⟩
  have hA2 := hM2.get hA (by simp)
  have hM02 := hM0.trans hM2 (by simp)
  have c2 := fun o => cellOf (o := o) hA2
  cases htx : txB (a, b, c)
  · rw [htx] at hR
    simp only [Bool.false_and, Bool.false_eq_true, if_false] at hR
    simp (maxSteps := 1000000) (disch := first | omega | (simp only [sizeAlloc, sizeDrew, sizeSet, sizePut] <;> omega) | fail) only [GS, TT_eq, TTl, Nat.reduceAdd, Nat.reduceMul, Nat.reduceSub, Nat.reduceDiv, Nat.reduceMod, Nat.reducePow, Nat.reduceEqDiff, ↓reduceIte, reduceCtorEq, Int.reduceToNat, Int.reduceAdd, Int.reduceSub, Int.reduceMul]
    exact hR _ hM02
  rw [htx, Bool.true_and] at hR
  simp (maxSteps := 1000000) (disch := first | omega | (simp only [sizeAlloc, sizeDrew, sizeSet, sizePut] <;> omega) | fail) only [GS, TT_eq, TTl, Nat.reduceAdd, Nat.reduceMul, Nat.reduceSub, Nat.reduceDiv, Nat.reduceMod, Nat.reducePow, Nat.reduceEqDiff, ↓reduceIte, reduceCtorEq, Int.reduceToNat, Int.reduceAdd, Int.reduceSub, Int.reduceMul, c2]
  by_cases h0 : aud < 0
  · rw [show orgB aud = false from decide_eq_false (fun h => by omega)] at hR
    simp only [Bool.false_and, Bool.false_eq_true, if_false] at hR
    simp (maxSteps := 1000000) (disch := first | omega | (simp only [sizeAlloc, sizeDrew, sizeSet, sizePut] <;> omega) | fail) only [GS, TT_eq, TTl, Nat.reduceAdd, Nat.reduceMul, Nat.reduceSub, Nat.reduceDiv, Nat.reduceMod, Nat.reducePow, Nat.reduceEqDiff, ↓reduceIte, reduceCtorEq, Int.reduceToNat, Int.reduceAdd, Int.reduceSub, Int.reduceMul, h0, c2]
    exact hR _ hM02
  by_cases h8 : 8 ≤ aud
  · rw [show orgB aud = false from decide_eq_false (fun h => by omega)] at hR
    simp only [Bool.false_and, Bool.false_eq_true, if_false] at hR
    simp (maxSteps := 1000000) (disch := first | omega | (simp only [sizeAlloc, sizeDrew, sizeSet, sizePut] <;> omega) | fail) only [GS, TT_eq, TTl, Nat.reduceAdd, Nat.reduceMul, Nat.reduceSub, Nat.reduceDiv, Nat.reduceMod, Nat.reducePow, Nat.reduceEqDiff, ↓reduceIte, reduceCtorEq, Int.reduceToNat, Int.reduceAdd, Int.reduceSub, Int.reduceMul, h0, h8, c2]
    exact hR _ hM02
  rw [show orgB aud = true from decide_eq_true (by omega), Bool.true_and] at hR
  simp (maxSteps := 1000000) (disch := first | omega | (simp only [sizeAlloc, sizeDrew, sizeSet, sizePut] <;> omega) | fail) only [GS, TT_eq, TTl, Nat.reduceAdd, Nat.reduceMul, Nat.reduceSub, Nat.reduceDiv, Nat.reduceMod, Nat.reducePow, Nat.reduceEqDiff, ↓reduceIte, reduceCtorEq, Int.reduceToNat, Int.reduceAdd, Int.reduceSub, Int.reduceMul, h0, h8, c2]
  refine ⟨fok72, hMM _ _ (by omega) hd (ha.mod hM02 (by simp)) fun w3 hM3 => .inl ⟨_, rfl, hold_ops okT (rs := [.tmp 2]) rfl ?_⟩⟩
  have hA3 := hM3.get hA2 (by simp)
  have hM03 := hM02.trans hM3 (by simp)
  have c3 := fun o => cellOf (o := o) hA3
  cases hmm : mbB a mbs
  · rw [hmm] at hR
    simp only [Bool.false_and, Bool.false_eq_true, if_false] at hR
    simp (maxSteps := 1000000) (disch := first | omega | (simp only [sizeAlloc, sizeDrew, sizeSet, sizePut] <;> omega) | fail) only [GS, TT_eq, TTl, Nat.reduceAdd, Nat.reduceMul, Nat.reduceSub, Nat.reduceDiv, Nat.reduceMod, Nat.reducePow, Nat.reduceEqDiff, ↓reduceIte, reduceCtorEq, Int.reduceToNat, Int.reduceAdd, Int.reduceSub, Int.reduceMul]
    exact hR _ hM03
  rw [hmm, Bool.true_and] at hR
  simp (maxSteps := 1000000) (disch := first | omega | (simp only [sizeAlloc, sizeDrew, sizeSet, sizePut] <;> omega) | fail) only [GS, TT_eq, TTl, Nat.reduceAdd, Nat.reduceMul, Nat.reduceSub, Nat.reduceDiv, Nat.reduceMod, Nat.reducePow, Nat.reduceEqDiff, ↓reduceIte, reduceCtorEq, Int.reduceToNat, Int.reduceAdd, Int.reduceSub, Int.reduceMul, c3]
  refine ⟨fok73, bFind_cps ms mbs org _ _ (by omega) (ha.mod hM03 (by simp)) (fun k w4 hk hko hM4 => .inl ⟨_, rfl, hold_ops okT (rs := [.tmp 2]) rfl ?_⟩) (fun hno w4 hM4 => .inl ⟨_, rfl, hold_ops okT (rs := [.tmp 2]) rfl ?_⟩)⟩
  · rw [any_of hk hko] at hR
    simp only [if_true] at hR
    have hk0 : ¬ ((k : Nat) : Int) < 0 := by omega
    have hk1 : (0 : Int) ≤ ((k : Nat) : Int) := by omega
    simp (maxSteps := 1000000) (disch := first | omega | (simp only [sizeAlloc, sizeDrew, sizeSet, sizePut] <;> omega) | fail) only [GS, TT_eq, TTl, Nat.reduceAdd, Nat.reduceMul, Nat.reduceSub, Nat.reduceDiv, Nat.reduceMod, Nat.reducePow, Nat.reduceEqDiff, ↓reduceIte, reduceCtorEq, Int.reduceToNat, Int.reduceAdd, Int.reduceSub, Int.reduceMul, hk0, hk1]
    exact hR _ (hM03.trans hM4 (by simp))
  · rw [any_no hno] at hR
    simp only [Bool.false_eq_true, if_false] at hR
    simp (maxSteps := 1000000) (disch := first | omega | (simp only [sizeAlloc, sizeDrew, sizeSet, sizePut] <;> omega) | fail) only [GS, TT_eq, TTl, Nat.reduceAdd, Nat.reduceMul, Nat.reduceSub, Nat.reduceDiv, Nat.reduceMod, Nat.reducePow, Nat.reduceEqDiff, ↓reduceIte, reduceCtorEq, Int.reduceToNat, Int.reduceAdd, Int.reduceSub, Int.reduceMul]
    exact hR _ (hM03.trans hM4 (by simp))
/-- A transaction at a member. -/
structure Pt where
  tx : Tx
  aud : Int
  mbs : List Mb
  org : Int
  body : List UInt8
  st : Nat
  tag : List UInt8
  sent : Int
/-- What is known of one that is read. -/
structure PtIn (w : World) (p : Pt) (ms : Value) : Prop where
  st : p.st < 256
  sent : I64 p.sent
  len : p.mbs.length ≤ 1000000
  dig : ∀ m ∈ p.mbs, m.2.length ≤ maxLen
  rd : Rd w 2 ms p.mbs.length (p.mbs.flatMap mbC)
  body : p.body.length ≤ maxLen
  tag : p.tag.length ≤ maxLen
theorem PtIn.mod {w w' : World} {p : Pt} {ms : Value} (h : PtIn w p ms) (hM : Mod [] w w') : PtIn w' p ms := ⟨h.st, h.sent, h.len, h.dig, h.rd.mod hM (by simp), h.body, h.tag⟩
theorem PtIn.new {w w' : World} {p : Pt} {ms ms' : Value} (h : PtIn w p ms) (hr : Rd w' 2 ms' p.mbs.length (p.mbs.flatMap mbC)) : PtIn w' p ms' := ⟨h.st, h.sent, h.len, h.dig, hr, h.body, h.tag⟩
end Go.Proofs.YthnlmmkhehphiaaGreatDoor
