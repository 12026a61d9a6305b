/-
  part: made, prepare, New, Same, Ballot (walks).
-/
import Derived.Test.YtpcilobbohokcaaPkpPar4
import Derived.Test.YtpcilobbohokcaaPkpW4
set_option linter.unusedSimpArgs false
set_option linter.unusedVariables false
namespace Go.Proofs.Ytpcilobbohokcaa
open Go Go.Wk Go.RowKit
attribute [local irreducible] go Hold
open Go.Lib
theorem st10 {w : World} {p t : Nat} {fr : Nat × Nat} {a0 a1 a2 a3 a4 a5 a6 a7 a8 a9 x0 x1 x2 x3 x4 x5 x6 x7 x8 x9 : Value} (hz : w.heap[p]? = some (.cells #[a0, a1, a2, a3, a4, a5, a6, a7, a8, a9] t fr)) : ((((((((((w.setCell ⟨p, 0, none⟩ (x0)).setCell ⟨p, 1, none⟩ (x1)).setCell ⟨p, 2, none⟩ (x2)).setCell ⟨p, 3, none⟩ (x3)).setCell ⟨p, 4, none⟩ (x4)).setCell ⟨p, 5, none⟩ (x5)).setCell ⟨p, 6, none⟩ (x6)).setCell ⟨p, 7, none⟩ (x7)).setCell ⟨p, 8, none⟩ (x8)).setCell ⟨p, 9, none⟩ (x9)).heap[p]? = some (.cells #[x0, x1, x2, x3, x4, x5, x6, x7, x8, x9] t fr) := by
  have h0 : (w.setCell ⟨p, 0, none⟩ x0).heap[p]? = some (.cells #[x0, a1, a2, a3, a4, a5, a6, a7, a8, a9] t fr) := by rw [heapSet hz]; rfl
  revert h0
  generalize w.setCell ⟨p, 0, none⟩ x0 = w0
  intro h0
  have h1 : (w0.setCell ⟨p, 1, none⟩ x1).heap[p]? = some (.cells #[x0, x1, a2, a3, a4, a5, a6, a7, a8, a9] t fr) := by rw [heapSet h0]; rfl
  revert h1
  generalize w0.setCell ⟨p, 1, none⟩ x1 = w1
  intro h1
  have h2 : (w1.setCell ⟨p, 2, none⟩ x2).heap[p]? = some (.cells #[x0, x1, x2, a3, a4, a5, a6, a7, a8, a9] t fr) := by rw [heapSet h1]; rfl
  revert h2
  generalize w1.setCell ⟨p, 2, none⟩ x2 = w2
  intro h2
  have h3 : (w2.setCell ⟨p, 3, none⟩ x3).heap[p]? = some (.cells #[x0, x1, x2, x3, a4, a5, a6, a7, a8, a9] t fr) := by rw [heapSet h2]; rfl
  revert h3
  generalize w2.setCell ⟨p, 3, none⟩ x3 = w3
  intro h3
  have h4 : (w3.setCell ⟨p, 4, none⟩ x4).heap[p]? = some (.cells #[x0, x1, x2, x3, x4, a5, a6, a7, a8, a9] t fr) := by rw [heapSet h3]; rfl
  revert h4
  generalize w3.setCell ⟨p, 4, none⟩ x4 = w4
  intro h4
  have h5 : (w4.setCell ⟨p, 5, none⟩ x5).heap[p]? = some (.cells #[x0, x1, x2, x3, x4, x5, a6, a7, a8, a9] t fr) := by rw [heapSet h4]; rfl
  revert h5
  generalize w4.setCell ⟨p, 5, none⟩ x5 = w5
  intro h5
  have h6 : (w5.setCell ⟨p, 6, none⟩ x6).heap[p]? = some (.cells #[x0, x1, x2, x3, x4, x5, x6, a7, a8, a9] t fr) := by rw [heapSet h5]; rfl
  revert h6
  generalize w5.setCell ⟨p, 6, none⟩ x6 = w6
  intro h6
  have h7 : (w6.setCell ⟨p, 7, none⟩ x7).heap[p]? = some (.cells #[x0, x1, x2, x3, x4, x5, x6, x7, a8, a9] t fr) := by rw [heapSet h6]; rfl
  revert h7
  generalize w6.setCell ⟨p, 7, none⟩ x7 = w7
  intro h7
  have h8 : (w7.setCell ⟨p, 8, none⟩ x8).heap[p]? = some (.cells #[x0, x1, x2, x3, x4, x5, x6, x7, x8, a9] t fr) := by rw [heapSet h7]; rfl
  revert h8
  generalize w7.setCell ⟨p, 8, none⟩ x8 = w8
  intro h8
  have h9 : (w8.setCell ⟨p, 9, none⟩ x9).heap[p]? = some (.cells #[x0, x1, x2, x3, x4, x5, x6, x7, x8, x9] t fr) := by rw [heapSet h8]; rfl
  revert h9
  generalize w8.setCell ⟨p, 9, none⟩ x9 = w9
  intro h9
  exact h9
theorem modSet10 {F : List Nat} {v w : World} {p : Nat} {x0 x1 x2 x3 x4 x5 x6 x7 x8 x9 : Value} (h : Mod F v w) (hn : p ∈ F ∨ v.heap.size ≤ p) : Mod F v ((((((((((w.setCell ⟨p, 0, none⟩ (x0)).setCell ⟨p, 1, none⟩ (x1)).setCell ⟨p, 2, none⟩ (x2)).setCell ⟨p, 3, none⟩ (x3)).setCell ⟨p, 4, none⟩ (x4)).setCell ⟨p, 5, none⟩ (x5)).setCell ⟨p, 6, none⟩ (x6)).setCell ⟨p, 7, none⟩ (x7)).setCell ⟨p, 8, none⟩ (x8)).setCell ⟨p, 9, none⟩ (x9)) := ((((((((((h).set (p := ⟨p, 0, none⟩) hn x0).set (p := ⟨p, 1, none⟩) hn x1).set (p := ⟨p, 2, none⟩) hn x2).set (p := ⟨p, 3, none⟩) hn x3).set (p := ⟨p, 4, none⟩) hn x4).set (p := ⟨p, 5, none⟩) hn x5).set (p := ⟨p, 6, none⟩) hn x6).set (p := ⟨p, 7, none⟩) hn x7).set (p := ⟨p, 8, none⟩) hn x8).set (p := ⟨p, 9, none⟩) hn x9
theorem setNe10 {w : World} {p q : Nat} {o : Obj} {x0 x1 x2 x3 x4 x5 x6 x7 x8 x9 : Value} (h : w.heap[q]? = some o) (hn : q ≠ p) : ((((((((((w.setCell ⟨p, 0, none⟩ (x0)).setCell ⟨p, 1, none⟩ (x1)).setCell ⟨p, 2, none⟩ (x2)).setCell ⟨p, 3, none⟩ (x3)).setCell ⟨p, 4, none⟩ (x4)).setCell ⟨p, 5, none⟩ (x5)).setCell ⟨p, 6, none⟩ (x6)).setCell ⟨p, 7, none⟩ (x7)).setCell ⟨p, 8, none⟩ (x8)).setCell ⟨p, 9, none⟩ (x9)).heap[q]? = some o := heapSetNe (heapSetNe (heapSetNe (heapSetNe (heapSetNe (heapSetNe (heapSetNe (heapSetNe (heapSetNe (heapSetNe (h) hn) hn) hn) hn) hn) hn) hn) hn) hn) hn
theorem st6z {w : World} {p t : Nat} {fr : Nat × Nat} {a0 a1 a2 a3 a4 a5 x0 x1 x2 x3 x4 x5 : Value} (hz : w.heap[p]? = some (.cells #[a0, a1, a2, a3, a4, a5] t fr)) : ((((((w.setCell ⟨p, 0, none⟩ (x0)).setCell ⟨p, 1, none⟩ (x1)).setCell ⟨p, 2, none⟩ (x2)).setCell ⟨p, 3, none⟩ (x3)).setCell ⟨p, 4, none⟩ (x4)).setCell ⟨p, 5, none⟩ (x5)).heap[p]? = some (.cells #[x0, x1, x2, x3, x4, x5] t fr) := by
  have h0 : (w.setCell ⟨p, 0, none⟩ x0).heap[p]? = some (.cells #[x0, a1, a2, a3, a4, a5] t fr) := by rw [heapSet hz]; rfl
  revert h0
  generalize w.setCell ⟨p, 0, none⟩ x0 = w0
  intro h0
  have h1 : (w0.setCell ⟨p, 1, none⟩ x1).heap[p]? = some (.cells #[x0, x1, a2, a3, a4, a5] t fr) := by rw [heapSet h0]; rfl
  revert h1
  generalize w0.setCell ⟨p, 1, none⟩ x1 = w1
  intro h1
  have h2 : (w1.setCell ⟨p, 2, none⟩ x2).heap[p]? = some (.cells #[x0, x1, x2, a3, a4, a5] t fr) := by rw [heapSet h1]; rfl
  revert h2
  generalize w1.setCell ⟨p, 2, none⟩ x2 = w2
  intro h2
  have h3 : (w2.setCell ⟨p, 3, none⟩ x3).heap[p]? = some (.cells #[x0, x1, x2, x3, a4, a5] t fr) := by rw [heapSet h2]; rfl
  revert h3
  generalize w2.setCell ⟨p, 3, none⟩ x3 = w3
  intro h3
  have h4 : (w3.setCell ⟨p, 4, none⟩ x4).heap[p]? = some (.cells #[x0, x1, x2, x3, x4, a5] t fr) := by rw [heapSet h3]; rfl
  revert h4
  generalize w3.setCell ⟨p, 4, none⟩ x4 = w4
  intro h4
  have h5 : (w4.setCell ⟨p, 5, none⟩ x5).heap[p]? = some (.cells #[x0, x1, x2, x3, x4, x5] t fr) := by rw [heapSet h4]; rfl
  revert h5
  generalize w4.setCell ⟨p, 5, none⟩ x5 = w5
  intro h5
  exact h5
theorem modSet6z {F : List Nat} {v w : World} {p : Nat} {x0 x1 x2 x3 x4 x5 : Value} (h : Mod F v w) (hn : p ∈ F ∨ v.heap.size ≤ p) : Mod F v ((((((w.setCell ⟨p, 0, none⟩ (x0)).setCell ⟨p, 1, none⟩ (x1)).setCell ⟨p, 2, none⟩ (x2)).setCell ⟨p, 3, none⟩ (x3)).setCell ⟨p, 4, none⟩ (x4)).setCell ⟨p, 5, none⟩ (x5)) := ((((((h).set (p := ⟨p, 0, none⟩) hn x0).set (p := ⟨p, 1, none⟩) hn x1).set (p := ⟨p, 2, none⟩) hn x2).set (p := ⟨p, 3, none⟩) hn x3).set (p := ⟨p, 4, none⟩) hn x4).set (p := ⟨p, 5, none⟩) hn x5
theorem load10 {w : World} {p : Nat} {K : Value → World → Prop} {x0 x1 x2 x3 x4 x5 x6 x7 x8 x9 : Value} (hh : w.heap[p]? = some (.cells #[x0, x1, x2, x3, x4, x5, x6, x7, x8, x9] 64 (0, 0))) (hK : K (.agg #[x0, x1, x2, x3, x4, x5, x6, x7, x8, x9]) w) : loadW TT 64 (.pointer (some ⟨p, 0, none⟩)) w K := by
  have c := fun o => cellOf (o := o) hh
  exact ⟨_, c 0, _, c 1, _, c 2, _, c 3, _, c 4, _, c 5, _, c 6, _, c 7, _, c 8, _, c 9, hK⟩
def ptZ : Value := .agg #[.int .i64 0, .int .i64 0, .int .i64 0, .int .i64 0, .slice none 0 0, .int .i64 0, .string ⟨#[]⟩, .int .u8 0, .string ⟨#[]⟩, .int .i64 0]
set_option maxRecDepth 20000 in
set_option maxHeartbeats 4000000 in
theorem pMade_cps (p : Pt) (ms : Value) (w : World) (h : PtIn w p ms) (R : Ending → World → Prop)
    (h1 : ∀ cv w', mayPt p = true → w'.ownsRow w.heap.size 59 2 cv p.mbs.length (p.mbs.flatMap mbC) → Mod [] w w' → R (.returned (.tuple #[ptV p cv, .int .i64 0])) w')
    (h0 : mayPt p = false → ∀ w', Mod [] w w' → R (.returned (.tuple #[ptZ, .int .i64 2])) w') :
    Calls Try.prog 68 #[ptV p ms] w R := by
  have hCk := fun w h => pCheck_cps p ms w h
  have hin := fun w' hM => (h.mod hM : PtIn w' p ms)
  have hl := h.len
  have hr := h.rd
  have os : ms.oneCell' = true := by obtain ⟨a, c, e⟩ := h.rd.slice; rw [e]; rfl
  clear h
  unfold ptZ at h0
  generalize mayPt p = B at *
  obtain ⟨⟨xa, xb, xc⟩, aud, mbs, org, body, st, tag, sent⟩ := p
  unfold ptV ptC at *
  simp only at hl hr h1 hCk ⊢
  refine calls_go 4000 okT Try.func68 rfl (rs := [.cell 2 64, .tmp 3]) rfl Try.ntmps68 (args := [.agg #[.int .i64 xa, .int .i64 xb, .int .i64 xc, .int .i64 aud, ms, .int .i64 org, .string ⟨body.toArray⟩, .int .u8 st, .string ⟨tag.toArray⟩, .int .i64 sent]]) ?_
  simp (maxSteps := 1000000) (disch := first | omega | (simp only [sizeAlloc, sizeDrew, sizeSet, sizePut] <;> omega) | fail) only [GS, TT_eq, TTl, Nat.reduceAdd, Nat.reduceMul, Nat.reduceSub, Nat.reduceDiv, Nat.reduceMod, Nat.reducePow, Nat.reduceEqDiff, ↓reduceIte, reduceCtorEq, Int.reduceToNat, Int.reduceAdd, Int.reduceSub, Int.reduceMul, os, cellsL_one os]
  generalize hW : (w.alloc (.cells #[.int .i64 xa, .int .i64 xb, .int .i64 xc, .int .i64 aud, ms, .int .i64 org, .string ⟨body.toArray⟩, .int .u8 st, .string ⟨tag.toArray⟩, .int .i64 sent] 64)).alloc (.cells #[.int .i64 0, .int .i64 0, .int .i64 0, .int .i64 0, .slice none 0 0, .int .i64 0, .string ⟨#[]⟩, .int .u8 0, .string ⟨#[]⟩, .int .i64 0] 64) = w1
  obtain ⟨hA, hB, hM0⟩ := two10 hW
  clear hW
  generalize hn : w.heap.size = n at *
  have hgeB : w.heap.size ≤ n + 1 := by omega
  refine ⟨fok31, hCk _ (hin _ hM0) _ fun w2 hM2 => .inl ⟨_, rfl, hold_ops okT (rs := [.cell 2 64, .tmp 3]) rfl ?_⟩⟩
  have hA2 := hM2.get hA (by simp)
  have hB2 := hM2.get hB (by simp)
  have hM02 := hM0.trans hM2 (by simp)
  have c2 := fun o => cellOf (o := o) hA2
  have x2 := fun o => frozenOf (o := o) hA2
  have cB := fun o => cellOf (o := o) hB2
  have xB := fun o => frozenOf (o := o) hB2
  cases B
  · simp only [Bool.false_eq_true, if_false]
    simp (maxSteps := 1000000) (disch := first | omega | (simp only [sizeAlloc, sizeDrew, sizeSet, sizePut] <;> omega) | fail) only [GS, TT_eq, TTl, Nat.reduceAdd, Nat.reduceMul, Nat.reduceSub, Nat.reduceDiv, Nat.reduceMod, Nat.reducePow, Nat.reduceEqDiff, ↓reduceIte, reduceCtorEq, Int.reduceToNat, Int.reduceAdd, Int.reduceSub, Int.reduceMul, cB, xB]
    refine load10 (st10 hB2) ?_
    exact h0 rfl _ (modSet10 hM02 (.inr hgeB))
  simp only [if_true]
  simp (maxSteps := 1000000) (disch := first | omega | (simp only [sizeAlloc, sizeDrew, sizeSet, sizePut] <;> omega) | fail) only [GS, TT_eq, TTl, Nat.reduceAdd, Nat.reduceMul, Nat.reduceSub, Nat.reduceDiv, Nat.reduceMod, Nat.reducePow, Nat.reduceEqDiff, ↓reduceIte, reduceCtorEq, Int.reduceToNat, Int.reduceAdd, Int.reduceSub, Int.reduceMul, c2]
  refine ⟨fok61, pClone_cps _ mbs _ hl (hr.mod hM02 (by simp)) _ fun cv w3 hown hM3 => .inl ⟨_, rfl, hold_stop (s' := some 5) (hold_ops okT (rs := [.cell 2 64, .tmp 3]) rfl ?_)⟩⟩
  have hA3 := hM3.get hA2 (by simp)
  have hB3 := hM3.get hB2 (by simp)
  have hM03 := hM02.trans hM3 (by simp)
  have oc := ownsRow_one hown
  have c3 := fun o => cellOf (o := o) hA3
  have x3 := fun o => frozenOf (o := o) hA3
  have hz : n + 1 < w2.heap.size := (Array.getElem?_eq_some_iff.1 hB2).1
  simp (maxSteps := 1000000) (disch := first | omega | (simp only [sizeAlloc, sizeDrew, sizeSet, sizePut] <;> omega) | fail) only [GS, TT_eq, TTl, Nat.reduceAdd, Nat.reduceMul, Nat.reduceSub, Nat.reduceDiv, Nat.reduceMod, Nat.reducePow, Nat.reduceEqDiff, ↓reduceIte, reduceCtorEq, Int.reduceToNat, Int.reduceAdd, Int.reduceSub, Int.reduceMul, c3, x3, oc, cellsL_one oc]
  have hA4 : (w3.setCell ⟨n, 4, none⟩ cv).heap[n]? = some (.cells #[.int .i64 xa, .int .i64 xb, .int .i64 xc, .int .i64 aud, cv, .int .i64 org, .string ⟨body.toArray⟩, .int .u8 st, .string ⟨tag.toArray⟩, .int .i64 sent] 64 (0, 0)) := by rw [heapSet hA3]; rfl
  have hB4 := heapSetNe (b := n) (j := 4) (u := cv) hB3 (by omega)
  have hM4 := hM03.set (p := ⟨n, 4, none⟩) (.inr (by simp only; omega)) cv
  have hown4 := ownsRow_mod hown ((Mod.refl [n] w3).set (p := ⟨n, 4, none⟩) (.inl (by simp)) cv) (by simp; omega)
  revert hA4 hB4 hM4 hown4
  generalize w3.setCell ⟨n, 4, none⟩ cv = w4
  intro hA4 hB4 hM4 hown4
  refine hold_stop (s' := none) ?_
  refine hold_code okT (rs := [.cell 2 64, .tmp 3]) rfl ?_
  have c4 := fun o => cellOf (o := o) hA4
  have cB := fun o => cellOf (o := o) hB4
  have xB := fun o => frozenOf (o := o) hB4
  simp (maxSteps := 1000000) (disch := first | omega | (simp only [sizeAlloc, sizeDrew, sizeSet, sizePut] <;> omega) | fail) only [GS, TT_eq, TTl, Nat.reduceAdd, Nat.reduceMul, Nat.reduceSub, Nat.reduceDiv, Nat.reduceMod, Nat.reducePow, Nat.reduceEqDiff, ↓reduceIte, reduceCtorEq, Int.reduceToNat, Int.reduceAdd, Int.reduceSub, Int.reduceMul, c4, cB, xB, oc, cellsL_one oc]
  refine load10 (st10 hB4) ?_
  refine h1 cv _ rfl ?_ (modSet10 hM4 (.inr hgeB))
  exact ownsRow_base (ownsRow_mod (S := [n + 1]) hown4 (modSet10 (F := [n + 1]) (p := n + 1) (x0 := .int .i64 xa) (x1 := .int .i64 xb) (x2 := .int .i64 xc) (x3 := .int .i64 aud) (x4 := cv) (x5 := .int .i64 org) (x6 := .string ⟨body.toArray⟩) (x7 := .int .u8 st) (x8 := .string ⟨tag.toArray⟩) (x9 := .int .i64 sent) (Mod.refl [n + 1] w4) (.inl (by simp))) (by simp; omega)) (by omega)
/-- Whether a message asks. -/
def prB (m : Msg) (k : Nat) : Bool := decide (k = 1) && checkB k m
/-- What is known of a message that is read. -/
structure MgIn (w : World) (m : Msg) (k : Nat) (sa : Value) : Prop where
  k0 : m.k = k
  k1 : k < 256
  body : m.body.length ≤ maxLen
  tag : m.tag.length ≤ maxLen
  len : m.mbs.length ≤ 1000000
  dig : ∀ x ∈ m.mbs, x.2.length ≤ maxLen
  rd : Rd w 2 sa m.mbs.length (m.mbs.flatMap mbC)
theorem MgIn.mod {w w' : World} {m : Msg} {k : Nat} {sa : Value} (h : MgIn w m k sa) (hM : Mod [] w w') : MgIn w' m k sa := ⟨h.k0, h.k1, h.body, h.tag, h.len, h.dig, h.rd.mod hM (by simp)⟩
theorem box9p {w W : World} {t : Nat} {a0 a1 a2 a3 a4 a5 a6 a7 a8 : Value} (h : w.alloc (.cells #[a0, a1, a2, a3, a4, a5, a6, a7, a8] t) = W) : W.heap[w.heap.size]? = some (.cells #[a0, a1, a2, a3, a4, a5, a6, a7, a8] t (0, 0)) ∧ Mod [] w W := by
  subst h
  exact ⟨heapNew, (Mod.refl [] w).alloc _⟩
set_option maxRecDepth 20000 in
set_option maxHeartbeats 4000000 in
theorem pPrep_cps (m : Msg) (k : Nat) (sa : Value) (w : World) (h : MgIn w m k sa) (R : Ending → World → Prop) (hR : ∀ w', Mod [] w w' → R (.returned (.bool (prB m k))) w') :
    Calls Try.prog 67 #[msgV m sa] w R := by
  have hk0 := h.k0
  have hk := h.k1
  have hCk := fun w' hM => wCheck_cps m k h.k0 h.k1 sa h.body h.tag h.len h.dig w' (h.mod hM).rd
  have os : sa.oneCell' = true := by obtain ⟨a, c, e⟩ := h.rd.slice; rw [e]; rfl
  clear h
  unfold prB at hR
  unfold checkE at hCk
  generalize checkB k m = B at hR hCk
  obtain ⟨k', ⟨ma, mb, mc⟩, maud, mmbs, mbody, yes, mtag⟩ := m
  simp only at hk0
  subst hk0
  unfold msgV msgC at *
  simp only at hCk ⊢
  refine calls_go 4000 okT Try.func67 rfl (rs := [.tmp 2]) rfl Try.ntmps67 (args := [.agg #[.int .u8 k, .int .i64 ma, .int .i64 mb, .int .i64 mc, .int .i64 maud, sa, .string ⟨mbody.toArray⟩, .bool yes, .string ⟨mtag.toArray⟩]]) ?_
  simp (maxSteps := 1000000) (disch := first | omega | (simp only [sizeAlloc, sizeDrew, sizeSet, sizePut] <;> omega) | fail) only [GS, TT_eq, TTl, Nat.reduceAdd, Nat.reduceMul, Nat.reduceSub, Nat.reduceDiv, Nat.reduceMod, Nat.reducePow, Nat.reduceEqDiff, ↓reduceIte, reduceCtorEq, Int.reduceToNat, Int.reduceAdd, Int.reduceSub, Int.reduceMul, os, cellsL_one os]
  by_cases hk1 : (k : Int) = 1
  rotate_left
  · rw [decide_eq_false (show ¬ k = 1 by omega), Bool.false_and] at hR
    simp (maxSteps := 1000000) (disch := first | omega | (simp only [sizeAlloc, sizeDrew, sizeSet, sizePut] <;> omega) | fail) only [GS, TT_eq, TTl, Nat.reduceAdd, Nat.reduceMul, Nat.reduceSub, Nat.reduceDiv, Nat.reduceMod, Nat.reducePow, Nat.reduceEqDiff, ↓reduceIte, reduceCtorEq, Int.reduceToNat, Int.reduceAdd, Int.reduceSub, Int.reduceMul, hk1]
    exact hR _ ((Mod.refl [] w).alloc _)
  rw [decide_eq_true (show k = 1 by omega), Bool.true_and] at hR
  simp (maxSteps := 1000000) (disch := first | omega | (simp only [sizeAlloc, sizeDrew, sizeSet, sizePut] <;> omega) | fail) only [GS, TT_eq, TTl, Nat.reduceAdd, Nat.reduceMul, Nat.reduceSub, Nat.reduceDiv, Nat.reduceMod, Nat.reducePow, Nat.reduceEqDiff, ↓reduceIte, reduceCtorEq, Int.reduceToNat, Int.reduceAdd, Int.reduceSub, Int.reduceMul, (decide_eq_true hk1)]
  generalize hW : w.alloc (.cells #[.int .u8 k, .int .i64 ma, .int .i64 mb, .int .i64 mc, .int .i64 maud, sa, .string ⟨mbody.toArray⟩, .bool yes, .string ⟨mtag.toArray⟩] 42) = w1
  obtain ⟨hA, hM0⟩ := box9p hW
  clear hW
  refine ⟨fok19, hCk _ hM0 _ fun w2 hM2 => .inl ⟨_, rfl, hold_ops okT (rs := [.tmp 2]) rfl ?_⟩⟩
  have hM02 := hM0.trans hM2 (by simp)
  cases B
  · simp only [Bool.false_eq_true, if_false]
    simp (maxSteps := 1000000) (disch := first | omega | (simp only [sizeAlloc, sizeDrew, sizeSet, sizePut] <;> omega) | fail) only [GS, TT_eq, TTl, Nat.reduceAdd, Nat.reduceMul, Nat.reduceSub, Nat.reduceDiv, Nat.reduceMod, Nat.reducePow, Nat.reduceEqDiff, ↓reduceIte, reduceCtorEq, Int.reduceToNat, Int.reduceAdd, Int.reduceSub, Int.reduceMul]
    exact hR _ hM02
  · simp only [if_true]
    simp (maxSteps := 1000000) (disch := first | omega | (simp only [sizeAlloc, sizeDrew, sizeSet, sizePut] <;> omega) | fail) only [GS, TT_eq, TTl, Nat.reduceAdd, Nat.reduceMul, Nat.reduceSub, Nat.reduceDiv, Nat.reduceMod, Nat.reducePow, Nat.reduceEqDiff, ↓reduceIte, reduceCtorEq, Int.reduceToNat, Int.reduceAdd, Int.reduceSub, Int.reduceMul]
    exact hR _ hM02
/-- What a message begins. -/
def newP (m : Msg) (org : Int) (body : List UInt8) : Pt := ⟨m.tx, m.aud, m.mbs, org, body, 1, [], -1⟩
set_option maxRecDepth 20000 in
set_option maxHeartbeats 4000000 in
theorem pNew_cps (m : Msg) (k : Nat) (sa : Value) (org : Int) (body : List UInt8) (hb : body.length ≤ maxLen) (w : World) (h : MgIn w m k sa) (R : Ending → World → Prop)
    (h1 : ∀ cv w', prB m k = true → mayPt (newP m org body) = true → w'.ownsRow w.heap.size 59 2 cv m.mbs.length (m.mbs.flatMap mbC) → Mod [] w w' → R (.returned (.tuple #[ptV (newP m org body) cv, .int .i64 0])) w')
    (h0 : (prB m k && mayPt (newP m org body)) = false → ∀ w', Mod [] w w' → R (.returned (.tuple #[ptZ, .int .i64 2])) w') :
    Calls Try.prog 27 #[msgV m sa, .int .i64 org, .string ⟨body.toArray⟩] w R := by
  have hk0 := h.k0
  have hPr := fun w' hM => pPrep_cps m k sa w' (h.mod hM)
  have hMd := fun (w' : World) (hM : Mod [] w w') => pMade_cps (newP m org body) sa w' ⟨show (1 : Nat) < 256 by decide, show -9223372036854775808 ≤ (-1 : Int) ∧ (-1 : Int) ≤ 9223372036854775807 by decide, h.len, h.dig, (h.mod hM).rd, hb, by unfold newP; simp⟩
  have os : sa.oneCell' = true := by obtain ⟨a, c, e⟩ := h.rd.slice; rw [e]; rfl
  clear h
  generalize mayPt (newP m org body) = B at *
  generalize prB m k = P at *
  obtain ⟨k', ⟨ma, mb, mc⟩, maud, mmbs, mbody, yes, mtag⟩ := m
  simp only at hk0
  subst hk0
  unfold ptZ at h0 hMd
  unfold newP ptV ptC at h1 hMd
  unfold msgV msgC at *
  simp only at hPr hMd h1 ⊢
  refine calls_go 4000 okT Try.func27 rfl (rs := [.cell 6 64, .tmp 7]) rfl Try.ntmps27 (args := [.agg #[.int .u8 k, .int .i64 ma, .int .i64 mb, .int .i64 mc, .int .i64 maud, sa, .string ⟨mbody.toArray⟩, .bool yes, .string ⟨mtag.toArray⟩], .int .i64 org, .string ⟨body.toArray⟩]) ?_
  simp (maxSteps := 1000000) (disch := first | omega | (simp only [sizeAlloc, sizeDrew, sizeSet, sizePut] <;> omega) | fail) only [GS, TT_eq, TTl, Nat.reduceAdd, Nat.reduceMul, Nat.reduceSub, Nat.reduceDiv, Nat.reduceMod, Nat.reducePow, Nat.reduceEqDiff, ↓reduceIte, reduceCtorEq, Int.reduceToNat, Int.reduceAdd, Int.reduceSub, Int.reduceMul, os, cellsL_one os]
  generalize hW : (w.alloc (.cells #[.int .u8 k, .int .i64 ma, .int .i64 mb, .int .i64 mc, .int .i64 maud, sa, .string ⟨mbody.toArray⟩, .bool yes, .string ⟨mtag.toArray⟩] 42)).alloc (.cells #[.int .i64 0, .int .i64 0, .int .i64 0, .int .i64 0, .slice none 0 0, .int .i64 0, .string ⟨#[]⟩, .int .u8 0, .string ⟨#[]⟩, .int .i64 0] 64) = w1
  obtain ⟨hA, hB, hM0⟩ := two10 hW
  clear hW
  generalize hn : w.heap.size = n at *
  have hgeB : w.heap.size ≤ n + 1 := by omega
  refine ⟨fok67, hPr _ hM0 _ fun w2 hM2 => .inl ⟨_, rfl, hold_ops okT (rs := [.cell 6 64, .tmp 7]) rfl ?_⟩⟩
  have hA2 := hM2.get hA (by simp)
  have hB2 := hM2.get hB (by simp)
  have hM02 := hM0.trans hM2 (by simp)
  cases P
  · have cB := fun o => cellOf (o := o) hB2
    have xB := fun o => frozenOf (o := o) hB2
    simp (maxSteps := 1000000) (disch := first | omega | (simp only [sizeAlloc, sizeDrew, sizeSet, sizePut] <;> omega) | fail) only [GS, TT_eq, TTl, Nat.reduceAdd, Nat.reduceMul, Nat.reduceSub, Nat.reduceDiv, Nat.reduceMod, Nat.reducePow, Nat.reduceEqDiff, ↓reduceIte, reduceCtorEq, Int.reduceToNat, Int.reduceAdd, Int.reduceSub, Int.reduceMul, cB, xB]
    refine load10 (st10 hB2) ?_
    exact h0 rfl _ (modSet10 hM02 (.inr hgeB))
  have c2 := fun o => cellOf (o := o) hA2
  have hz : n + 1 < w2.heap.size := (Array.getElem?_eq_some_iff.1 hB2).1
  simp (maxSteps := 1000000) (disch := first | omega | (simp only [sizeAlloc, sizeDrew, sizeSet, sizePut] <;> omega) | fail) only [GS, TT_eq, TTl, Nat.reduceAdd, Nat.reduceMul, Nat.reduceSub, Nat.reduceDiv, Nat.reduceMod, Nat.reducePow, Nat.reduceEqDiff, ↓reduceIte, reduceCtorEq, Int.reduceToNat, Int.reduceAdd, Int.reduceSub, Int.reduceMul, c2, os, cellsL_one os]
  refine ⟨fok68, hMd _ hM02 _ (fun cv w3 hm hown hM3 => .inl ⟨_, rfl, hold_ops okT (rs := [.cell 6 64, .tmp 7]) rfl ?_⟩) (fun hm w3 hM3 => .inl ⟨_, rfl, hold_ops okT (rs := [.cell 6 64, .tmp 7]) rfl ?_⟩)⟩
  · have hB3 := hM3.get hB2 (by simp)
    have hM03 := hM02.trans hM3 (by simp)
    have cB := fun o => cellOf (o := o) hB3
    have xB := fun o => frozenOf (o := o) hB3
    have oc := ownsRow_one hown
    simp (maxSteps := 1000000) (disch := first | omega | (simp only [sizeAlloc, sizeDrew, sizeSet, sizePut] <;> omega) | fail) only [GS, TT_eq, TTl, Nat.reduceAdd, Nat.reduceMul, Nat.reduceSub, Nat.reduceDiv, Nat.reduceMod, Nat.reducePow, Nat.reduceEqDiff, ↓reduceIte, reduceCtorEq, Int.reduceToNat, Int.reduceAdd, Int.reduceSub, Int.reduceMul, cB, xB, oc, cellsL_one oc]
    refine load10 (st10 hB3) ?_
    refine h1 cv _ rfl hm ?_ (modSet10 hM03 (.inr hgeB))
    exact ownsRow_base (ownsRow_mod (S := [n + 1]) hown (modSet10 (F := [n + 1]) (p := n + 1) (x0 := .int .i64 ma) (x1 := .int .i64 mb) (x2 := .int .i64 mc) (x3 := .int .i64 maud) (x4 := cv) (x5 := .int .i64 org) (x6 := .string ⟨body.toArray⟩) (x7 := .int .u8 1) (x8 := .string ⟨#[]⟩) (x9 := .int .i64 (-1)) (Mod.refl [n + 1] w3) (.inl (by simp))) (by simp; omega)) (by omega)
  · have hB3 := hM3.get hB2 (by simp)
    have hM03 := hM02.trans hM3 (by simp)
    have cB := fun o => cellOf (o := o) hB3
    have xB := fun o => frozenOf (o := o) hB3
    simp (maxSteps := 1000000) (disch := first | omega | (simp only [sizeAlloc, sizeDrew, sizeSet, sizePut] <;> omega) | fail) only [GS, TT_eq, TTl, Nat.reduceAdd, Nat.reduceMul, Nat.reduceSub, Nat.reduceDiv, Nat.reduceMod, Nat.reducePow, Nat.reduceEqDiff, ↓reduceIte, reduceCtorEq, Int.reduceToNat, Int.reduceAdd, Int.reduceSub, Int.reduceMul, cB, xB]
    refine load10 (st10 hB3) ?_
    exact h0 (by rw [hm]; rfl) _ (modSet10 hM03 (.inr hgeB))
end Go.Proofs.Ytpcilobbohokcaa
