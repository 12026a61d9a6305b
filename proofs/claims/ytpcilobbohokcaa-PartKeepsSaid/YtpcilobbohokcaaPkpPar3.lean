/-
  ballot.Check, the reference's May of a ballot; part: the ballot of a transaction (walks).
-/
import Derived.Test.YtpcilobbohokcaaPkpPar2
set_option linter.unusedSimpArgs false
set_option linter.unusedVariables false
namespace Go.Proofs.Ytpcilobbohokcaa
open Go Go.Wk Go.RowKit
attribute [local irreducible] go Hold
open Go.Lib
theorem bx6 {w W : World} {t : Nat} {a0 a1 a2 a3 a4 a5 : Value} (h : w.alloc (.cells #[a0, a1, a2, a3, a4, a5] t) = W) : W.heap[w.heap.size]? = some (.cells #[a0, a1, a2, a3, a4, a5] t (0, 0)) ∧ Mod [] w W := by
  subst h
  exact ⟨heapNew, (Mod.refl [] w).alloc _⟩
/-- Whether a ballot may be. -/
def balB (x : Tx) (aud : Int) (mbs : List Mb) (org : Int) : Bool := txB x && orgB aud && mbB x.1 mbs && mbs.any fun m => decide (m.1 = org)
def balV (x : Tx) (aud : Int) (ms : Value) (org : Int) : Value := .agg #[.int .i64 x.1, .int .i64 x.2.1, .int .i64 x.2.2, .int .i64 aud, ms, .int .i64 org]
theorem any_of {mbs : List Mb} {org : Int} {k : Nat} (hk : k < mbs.length) (h : mbs[k].1 = org) : (mbs.any fun m => decide (m.1 = org)) = true := List.any_eq_true.2 ⟨mbs[k], List.getElem_mem hk, decide_eq_true h⟩
theorem any_no {mbs : List Mb} {org : Int} (h : ∀ m ∈ mbs, m.1 ≠ org) : (mbs.any fun m => decide (m.1 = org)) = false := List.any_eq_false.2 fun m hm => by simpa using h m hm
set_option maxRecDepth 20000 in
set_option maxHeartbeats 8000000 in
theorem balCheck_cps (x : Tx) (aud : Int) (ms : Value) (mbs : List Mb) (org : Int) (w : World) (hl : mbs.length ≤ 1000000) (hd : ∀ m ∈ mbs, m.2.length ≤ maxLen) (ha : Rd w 2 ms mbs.length (mbs.flatMap mbC)) (R : Ending → World → Prop) (hR : ∀ w', Mod [] w w' → R (.returned (.int .i64 (if balB x aud mbs org = true then 0 else 2))) w') : Calls Try.prog 72 #[balV x aud ms org] w R := by
  have hMT := wMayTxn_cps x
  have hMM := wMayMembers_cps x ms mbs
  have os : ms.oneCell' = true := by obtain ⟨a, c, e⟩ := ha.slice; rw [e]; rfl
  unfold balB at hR
  obtain ⟨a, b, c⟩ := x
  unfold txV at hMT hMM
  unfold balV
  simp only at hR hMT hMM ⊢
  refine calls_go 4000 okT Try.func72 rfl (rs := [.tmp 2]) rfl Try.ntmps72 (args := [.agg #[.int .i64 a, .int .i64 b, .int .i64 c, .int .i64 aud, ms, .int .i64 org]]) ?_
  simp (maxSteps := 1000000) (disch := first | omega | (simp only [sizeAlloc, sizeDrew, sizeSet, sizePut] <;> omega) | fail) only [GS, TT_eq, TTl, Nat.reduceAdd, Nat.reduceMul, Nat.reduceSub, Nat.reduceDiv, Nat.reduceMod, Nat.reducePow, Nat.reduceEqDiff, ↓reduceIte, reduceCtorEq, Int.reduceToNat, Int.reduceAdd, Int.reduceSub, Int.reduceMul, os, cellsL_one os]
  generalize hW : w.alloc (.cells #[.int .i64 a, .int .i64 b, .int .i64 c, .int .i64 aud, ms, .int .i64 org] 57) = w1
  obtain ⟨hA, hM0⟩ := bx6 hW
  clear hW
  generalize hn : w.heap.size = n at *
  refine ⟨fok46, hMT _ _ fun w2 hM2 => .inl ⟨_, rfl, hold_ops okT (rs := [.tmp 2]) rfl ?_⟩⟩
  have hA2 := hM2.get hA (by simp)
  have hM02 := hM0.trans hM2 (by simp)
  have c2 := fun o => cellOf (o := o) hA2
  cases htx : txB (a, b, c)
  · rw [htx] at hR
    simp only [Bool.false_and, Bool.false_eq_true, if_false] at hR
    simp (maxSteps := 1000000) (disch := first | omega | (simp only [sizeAlloc, sizeDrew, sizeSet, sizePut] <;> omega) | fail) only [GS, TT_eq, TTl, Nat.reduceAdd, Nat.reduceMul, Nat.reduceSub, Nat.reduceDiv, Nat.reduceMod, Nat.reducePow, Nat.reduceEqDiff, ↓reduceIte, reduceCtorEq, Int.reduceToNat, Int.reduceAdd, Int.reduceSub, Int.reduceMul]
    exact hR _ hM02
  rw [htx, Bool.true_and] at hR
  simp (maxSteps := 1000000) (disch := first | omega | (simp only [sizeAlloc, sizeDrew, sizeSet, sizePut] <;> omega) | fail) only [GS, TT_eq, TTl, Nat.reduceAdd, Nat.reduceMul, Nat.reduceSub, Nat.reduceDiv, Nat.reduceMod, Nat.reducePow, Nat.reduceEqDiff, ↓reduceIte, reduceCtorEq, Int.reduceToNat, Int.reduceAdd, Int.reduceSub, Int.reduceMul, c2]
  by_cases h0 : aud < 0
  · rw [show orgB aud = false from decide_eq_false (fun h => by omega)] at hR
    simp only [Bool.false_and, Bool.false_eq_true, if_false] at hR
    simp (maxSteps := 1000000) (disch := first | omega | (simp only [sizeAlloc, sizeDrew, sizeSet, sizePut] <;> omega) | fail) only [GS, TT_eq, TTl, Nat.reduceAdd, Nat.reduceMul, Nat.reduceSub, Nat.reduceDiv, Nat.reduceMod, Nat.reducePow, Nat.reduceEqDiff, ↓reduceIte, reduceCtorEq, Int.reduceToNat, Int.reduceAdd, Int.reduceSub, Int.reduceMul, h0, c2]
    exact hR _ hM02
  by_cases h8 : 8 ≤ aud
  · rw [show orgB aud = false from decide_eq_false (fun h => by omega)] at hR
    simp only [Bool.false_and, Bool.false_eq_true, if_false] at hR
    simp (maxSteps := 1000000) (disch := first | omega | (simp only [sizeAlloc, sizeDrew, sizeSet, sizePut] <;> omega) | fail) only [GS, TT_eq, TTl, Nat.reduceAdd, Nat.reduceMul, Nat.reduceSub, Nat.reduceDiv, Nat.reduceMod, Nat.reducePow, Nat.reduceEqDiff, ↓reduceIte, reduceCtorEq, Int.reduceToNat, Int.reduceAdd, Int.reduceSub, Int.reduceMul, h0, h8, c2]
    exact hR _ hM02
  rw [show orgB aud = true from decide_eq_true (by omega), Bool.true_and] at hR
  simp (maxSteps := 1000000) (disch := first | omega | (simp only [sizeAlloc, sizeDrew, sizeSet, sizePut] <;> omega) | fail) only [GS, TT_eq, TTl, Nat.reduceAdd, Nat.reduceMul, Nat.reduceSub, Nat.reduceDiv, Nat.reduceMod, Nat.reducePow, Nat.reduceEqDiff, ↓reduceIte, reduceCtorEq, Int.reduceToNat, Int.reduceAdd, Int.reduceSub, Int.reduceMul, h0, h8, c2]
  refine ⟨fok47, hMM _ _ (by omega) hd (ha.mod hM02 (by simp)) fun w3 hM3 => .inl ⟨_, rfl, hold_ops okT (rs := [.tmp 2]) rfl ?_⟩⟩
  have hA3 := hM3.get hA2 (by simp)
  have hM03 := hM02.trans hM3 (by simp)
  have c3 := fun o => cellOf (o := o) hA3
  cases hmm : mbB a mbs
  · rw [hmm] at hR
    simp only [Bool.false_and, Bool.false_eq_true, if_false] at hR
    simp (maxSteps := 1000000) (disch := first | omega | (simp only [sizeAlloc, sizeDrew, sizeSet, sizePut] <;> omega) | fail) only [GS, TT_eq, TTl, Nat.reduceAdd, Nat.reduceMul, Nat.reduceSub, Nat.reduceDiv, Nat.reduceMod, Nat.reducePow, Nat.reduceEqDiff, ↓reduceIte, reduceCtorEq, Int.reduceToNat, Int.reduceAdd, Int.reduceSub, Int.reduceMul]
    exact hR _ hM03
  rw [hmm, Bool.true_and] at hR
  simp (maxSteps := 1000000) (disch := first | omega | (simp only [sizeAlloc, sizeDrew, sizeSet, sizePut] <;> omega) | fail) only [GS, TT_eq, TTl, Nat.reduceAdd, Nat.reduceMul, Nat.reduceSub, Nat.reduceDiv, Nat.reduceMod, Nat.reducePow, Nat.reduceEqDiff, ↓reduceIte, reduceCtorEq, Int.reduceToNat, Int.reduceAdd, Int.reduceSub, Int.reduceMul, c3]
  refine ⟨fok112, bFind_cps ms mbs org _ _ (by omega) (ha.mod hM03 (by simp)) (fun k w4 hk hko hM4 => .inl ⟨_, rfl, hold_ops okT (rs := [.tmp 2]) rfl ?_⟩) (fun hno w4 hM4 => .inl ⟨_, rfl, hold_ops okT (rs := [.tmp 2]) rfl ?_⟩)⟩
  · rw [any_of hk hko] at hR
    simp only [if_true] at hR
    have hk0 : ¬ ((k : Nat) : Int) < 0 := by omega
    have hk1 : (0 : Int) ≤ ((k : Nat) : Int) := by omega
    simp (maxSteps := 1000000) (disch := first | omega | (simp only [sizeAlloc, sizeDrew, sizeSet, sizePut] <;> omega) | fail) only [GS, TT_eq, TTl, Nat.reduceAdd, Nat.reduceMul, Nat.reduceSub, Nat.reduceDiv, Nat.reduceMod, Nat.reducePow, Nat.reduceEqDiff, ↓reduceIte, reduceCtorEq, Int.reduceToNat, Int.reduceAdd, Int.reduceSub, Int.reduceMul, hk0, hk1]
    exact hR _ (hM03.trans hM4 (by simp))
  · rw [any_no hno] at hR
    simp only [Bool.false_eq_true, if_false] at hR
    simp (maxSteps := 1000000) (disch := first | omega | (simp only [sizeAlloc, sizeDrew, sizeSet, sizePut] <;> omega) | fail) only [GS, TT_eq, TTl, Nat.reduceAdd, Nat.reduceMul, Nat.reduceSub, Nat.reduceDiv, Nat.reduceMod, Nat.reducePow, Nat.reduceEqDiff, ↓reduceIte, reduceCtorEq, Int.reduceToNat, Int.reduceAdd, Int.reduceSub, Int.reduceMul]
    exact hR _ (hM03.trans hM4 (by simp))
/-- A transaction at a member. -/
structure Pt where
  tx : Tx
  aud : Int
  mbs : List Mb
  org : Int
  body : List UInt8
  st : Nat
  tag : List UInt8
  sent : Int
def ptC (p : Pt) (ms : Value) : List Value := [.int .i64 p.tx.1, .int .i64 p.tx.2.1, .int .i64 p.tx.2.2, .int .i64 p.aud, ms, .int .i64 p.org, .string ⟨p.body.toArray⟩, .int .u8 p.st, .string ⟨p.tag.toArray⟩, .int .i64 p.sent]
def ptV (p : Pt) (ms : Value) : Value := .agg (ptC p ms).toArray
/-- What is known of one that is read. -/
structure PtIn (w : World) (p : Pt) (ms : Value) : Prop where
  st : p.st < 256
  sent : I64 p.sent
  len : p.mbs.length ≤ 1000000
  dig : ∀ m ∈ p.mbs, m.2.length ≤ maxLen
  rd : Rd w 2 ms p.mbs.length (p.mbs.flatMap mbC)
  body : p.body.length ≤ maxLen
  tag : p.tag.length ≤ maxLen
theorem PtIn.mod {w w' : World} {p : Pt} {ms : Value} (h : PtIn w p ms) (hM : Mod [] w w') : PtIn w' p ms := ⟨h.st, h.sent, h.len, h.dig, h.rd.mod hM (by simp), h.body, h.tag⟩
/-- Whether a tag may be, in a state. -/
def tagB (s : Nat) (t : List UInt8) : Bool := if s = 2 ∨ s = 4 then decide (checkS t = 0) else if s = 5 then decide (checkS t = 0 ∨ t = []) else decide (t = [])
def mayPt (p : Pt) : Bool := decide (1 ≤ p.st ∧ p.st ≤ 5) && decide (-1 ≤ p.sent) && decide (checkS p.body = 0) && balB p.tx p.aud p.mbs p.org && tagB p.st p.tag
theorem zeroRowP {w : World} {e base size : Nat} (hb : base ≤ w.heap.size) : (w.alloc (.cells #[] e)).ownsRow base e size (.slice (some ⟨w.heap.size, 0, none⟩) 0 0) 0 [] :=
  ⟨by simp, .inr ⟨w.heap.size, 0, #[], rfl, hb, heapNew, Nat.le_refl _, by unfold maxLen; omega, by simp, by simp⟩⟩
set_option maxRecDepth 20000 in
set_option maxHeartbeats 4000000 in
theorem pClone_cps (sm : Value) (l : List Mb) (w : World) (hl : l.length ≤ 1000000) (ha : Rd w 2 sm l.length (l.flatMap mbC)) (R : Ending → World → Prop) (hR : ∀ sv w', w'.ownsRow w.heap.size 59 2 sv l.length (l.flatMap mbC) → Mod [] w w' → R (.returned sv) w') : Calls Try.prog 61 #[sm] w R := by
  obtain ⟨a, c, rfl⟩ := ha.slice
  refine calls_go 4000 okT Try.func61 rfl (rs := [.tmp 2]) rfl Try.ntmps61 (args := [.slice a l.length c]) ?_
  cases a with
  | none =>
    simp (maxSteps := 1000000) (disch := first | omega | (simp only [sizeAlloc, sizeDrew, sizeSet, sizePut] <;> omega) | fail) only [GS, TT_eq, TTl, Nat.reduceAdd, Nat.reduceMul, Nat.reduceSub, Nat.reduceDiv, Nat.reduceMod, Nat.reducePow, Nat.reduceEqDiff, ↓reduceIte, reduceCtorEq, Int.reduceToNat, Int.reduceAdd, Int.reduceSub, Int.reduceMul]
    have h0 : l.length = 0 := by
      apply Classical.byContradiction
      intro h
      obtain ⟨b, o, cap, e, _⟩ := ha.at (by omega) (by omega)
      simp at e
    rw [List.length_eq_zero_iff.1 h0] at hR
    exact hR _ _ (World.ownsRow_nil _ _ _ _) (Mod.refl _ _)
  | some ad =>
    simp (maxSteps := 1000000) (disch := first | omega | (simp only [sizeAlloc, sizeDrew, sizeSet, sizePut] <;> omega) | fail) only [GS, TT_eq, TTl, Nat.reduceAdd, Nat.reduceMul, Nat.reduceSub, Nat.reduceDiv, Nat.reduceMod, Nat.reducePow, Nat.reduceEqDiff, ↓reduceIte, reduceCtorEq, Int.reduceToNat, Int.reduceAdd, Int.reduceSub, Int.reduceMul]
    have hz := zeroRowP (w := w) (e := 59) (base := w.heap.size) (size := 2) (Nat.le_refl _)
    have hM0 := (Mod.refl [] w).alloc (.cells #[] 59)
    have ha1 := ha.mod hM0 (by simp)
    refine hold_appendR okT rfl rfl rfl rfl (by decide) w.heap.size hz rfl rfl ha1 (by intro u hu; obtain ⟨z, _, hz⟩ := List.mem_flatMap.1 hu; simp only [mbC, List.mem_cons, List.not_mem_nil, or_false] at hz; rcases hz with rfl | rfl <;> rfl) (by simp only; omega) (by unfold maxLen; omega) (by rw [sizeAlloc]; omega) fun sv w2 hown hM2 => hold_ops okT (rs := [.tmp 2]) rfl ?_
    have hsv := ownsRow_one hown
    simp (maxSteps := 1000000) (disch := first | omega | (simp only [sizeAlloc, sizeDrew, sizeSet, sizePut] <;> omega) | fail) only [GS, TT_eq, TTl, Nat.reduceAdd, Nat.reduceMul, Nat.reduceSub, Nat.reduceDiv, Nat.reduceMod, Nat.reducePow, Nat.reduceEqDiff, ↓reduceIte, reduceCtorEq, Int.reduceToNat, Int.reduceAdd, Int.reduceSub, Int.reduceMul, cellsL_one hsv, hsv]
    rw [Nat.zero_add, List.nil_append] at hown
    exact hR sv _ hown (hM0.trans hM2 (fun y hy => .inr (by simp [Value.ownBlock] at hy; omega)))
theorem load6b {w : World} {p : Nat} {K : Value → World → Prop} {x0 x1 x2 x3 x4 x5 : Value} (hh : w.heap[p]? = some (.cells #[x0, x1, x2, x3, x4, x5] 116 (0, 0))) (hK : K (.agg #[x0, x1, x2, x3, x4, x5]) w) : loadW TT 116 (.pointer (some ⟨p, 0, none⟩)) w K := by
  have c := fun o => cellOf (o := o) hh
  exact ⟨_, c 0, _, c 1, _, c 2, _, c 3, _, c 4, _, c 5, hK⟩
theorem modSet6p {F : List Nat} {v w : World} {p : Nat} {x0 x1 x2 x3 x4 x5 : Value} (h : Mod F v w) (hn : p ∈ F ∨ v.heap.size ≤ p) : Mod F v ((((((w.setCell ⟨p, 0, none⟩ x0).setCell ⟨p, 1, none⟩ x1).setCell ⟨p, 2, none⟩ x2).setCell ⟨p, 3, none⟩ x3).setCell ⟨p, 4, none⟩ x4).setCell ⟨p, 5, none⟩ x5) :=
  (((((h.set (p := ⟨p, 0, none⟩) hn x0).set (p := ⟨p, 1, none⟩) hn x1).set (p := ⟨p, 2, none⟩) hn x2).set (p := ⟨p, 3, none⟩) hn x3).set (p := ⟨p, 4, none⟩) hn x4).set (p := ⟨p, 5, none⟩) hn x5
theorem two10 {w W : World} {A : Obj} {B : Obj} (h : (w.alloc A).alloc B = W) : W.heap[w.heap.size]? = some A ∧ W.heap[w.heap.size + 1]? = some B ∧ Mod [] w W := by
  subst h
  have h1 := heapNew (w := w.alloc A) (o := B)
  rw [sizeAlloc] at h1
  exact ⟨heapAlloc heapNew, h1, ((Mod.refl [] w).alloc _).alloc _⟩
set_option maxRecDepth 20000 in
set_option maxHeartbeats 8000000 in
theorem pOf_cps (p : Pt) (ms : Value) (w : World) (h : PtIn w p ms) (R : Ending → World → Prop) (hR : ∀ cv w', w'.ownsRow w.heap.size 59 2 cv p.mbs.length (p.mbs.flatMap mbC) → Mod [] w w' → R (.returned (balV p.tx p.aud cv p.org)) w') :
    Calls Try.prog 69 #[ptV p ms] w R := by
  have hl := h.len
  have hr := h.rd
  have os : ms.oneCell' = true := by obtain ⟨a, c, e⟩ := hr.slice; rw [e]; rfl
  clear h
  obtain ⟨⟨xa, xb, xc⟩, aud, mbs, org, body, st, tag, sent⟩ := p
  unfold balV at hR
  unfold ptV ptC
  simp only at hl hr hR ⊢
  refine calls_go 4000 okT Try.func69 rfl (rs := [.cell 2 116]) rfl Try.ntmps69 (args := [.agg #[.int .i64 xa, .int .i64 xb, .int .i64 xc, .int .i64 aud, ms, .int .i64 org, .string ⟨body.toArray⟩, .int .u8 st, .string ⟨tag.toArray⟩, .int .i64 sent]]) ?_
  simp (maxSteps := 1000000) (disch := first | omega | (simp only [sizeAlloc, sizeDrew, sizeSet, sizePut] <;> omega) | fail) only [GS, TT_eq, TTl, Nat.reduceAdd, Nat.reduceMul, Nat.reduceSub, Nat.reduceDiv, Nat.reduceMod, Nat.reducePow, Nat.reduceEqDiff, ↓reduceIte, reduceCtorEq, Int.reduceToNat, Int.reduceAdd, Int.reduceSub, Int.reduceMul, os, cellsL_one os]
  generalize hW : (w.alloc (.cells #[.int .i64 xa, .int .i64 xb, .int .i64 xc, .int .i64 aud, ms, .int .i64 org, .string ⟨body.toArray⟩, .int .u8 st, .string ⟨tag.toArray⟩, .int .i64 sent] 64)).alloc (.cells #[.int .i64 0, .int .i64 0, .int .i64 0, .int .i64 0, .slice none 0 0, .int .i64 0] 116) = w1
  obtain ⟨hA, hB, hM0⟩ := two10 hW
  clear hW
  generalize hn : w.heap.size = n at *
  have hgeB : w.heap.size ≤ n + 1 := by omega
  refine hold_draw okT (rs := [.cell 2 116]) rfl [0, 1, 0, 4, 0, 16, 48, 0, 128, 511, 1023, 2047] [0, 1, 2, 3, 4, 5, 7, 8, 6, 9, 10, 11] (by kernel_rfl) (by kernel_rfl) ?_
  have hM01 := (Mod.refl [] w1).drewN 1
  generalize w1.drewN 1 = w2 at *
  have hA2 := hM01.get hA (by simp)
  have hB2 := hM01.get hB (by simp)
  have hM02 := hM0.trans hM01 (by simp)
  have hz : n + 1 < w2.heap.size := (Array.getElem?_eq_some_iff.1 hB2).1
  have c2 := fun o => cellOf (o := o) hA2
  simp (maxSteps := 1000000) (disch := first | omega | (simp only [sizeAlloc, sizeDrew, sizeSet, sizePut] <;> omega) | fail) only [GS, TT_eq, TTl, Nat.reduceAdd, Nat.reduceMul, Nat.reduceSub, Nat.reduceDiv, Nat.reduceMod, Nat.reducePow, Nat.reduceEqDiff, ↓reduceIte, reduceCtorEq, Int.reduceToNat, Int.reduceAdd, Int.reduceSub, Int.reduceMul, c2]
  refine ⟨fok61, pClone_cps _ mbs _ hl (hr.mod hM02 (by simp)) _ fun cv w3 hown hM3 => .inl ⟨_, rfl, ?_⟩⟩
  have hA3 := hM3.get hA2 (by simp)
  have c3 := fun o => cellOf (o := o) hA3
  refine ⟨(by simp (maxSteps := 1000000) (disch := first | omega | (simp only [sizeAlloc, sizeDrew, sizeSet, sizePut] <;> omega) | fail) only [GS, TT_eq, TTl, Nat.reduceAdd, Nat.reduceMul, Nat.reduceSub, Nat.reduceDiv, Nat.reduceMod, Nat.reducePow, Nat.reduceEqDiff, ↓reduceIte, reduceCtorEq, Int.reduceToNat, Int.reduceAdd, Int.reduceSub, Int.reduceMul, c3]), hold_dops okT (rs := [.cell 2 116]) rfl ?_⟩
  have hB3 := hM3.get hB2 (by simp)
  have hM03 := hM02.trans hM3 (by simp)
  have oc := ownsRow_one hown
  have cB := fun o => cellOf (o := o) hB3
  have xB := fun o => frozenOf (o := o) hB3
  simp (maxSteps := 1000000) (disch := first | omega | (simp only [sizeAlloc, sizeDrew, sizeSet, sizePut] <;> omega) | fail) only [GS, TT_eq, TTl, Nat.reduceAdd, Nat.reduceMul, Nat.reduceSub, Nat.reduceDiv, Nat.reduceMod, Nat.reducePow, Nat.reduceEqDiff, ↓reduceIte, reduceCtorEq, Int.reduceToNat, Int.reduceAdd, Int.reduceSub, Int.reduceMul, cB, xB, oc, cellsL_one oc]
  refine load6b (st6 hB3) ?_
  refine hR cv _ ?_ (modSet6p hM03 (.inr hgeB))
  exact ownsRow_base (ownsRow_mod (S := [n + 1]) hown (modSet6p (F := [n + 1]) (p := n + 1) (x0 := .int .i64 xa) (x1 := .int .i64 xb) (x2 := .int .i64 xc) (x3 := .int .i64 aud) (x4 := cv) (x5 := .int .i64 org) (Mod.refl [n + 1] w3) (.inl (by simp))) (by simp; omega)) (by omega)
end Go.Proofs.Ytpcilobbohokcaa
