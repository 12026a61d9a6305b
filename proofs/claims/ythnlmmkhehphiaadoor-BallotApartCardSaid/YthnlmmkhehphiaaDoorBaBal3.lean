/-
  chirographlaw13: one, alive (walks).
-/
import Derived.Test.YthnlmmkhehphiaaDoorBaBal2
set_option linter.unusedSimpArgs false
set_option linter.unusedVariables false
set_option maxRecDepth 20000
namespace Go.Proofs.YthnlmmkhehphiaaDoor
open Go Go.Wk Go.RowKit
attribute [local irreducible] go Hold
open Go.Lib
theorem rdBlk {w : World} {b e n size : Nat} {xs : List Value} (h : w.heap[b]? = some (.cells xs.toArray e (0, 0))) (hn : xs.length = n * size) : Rd w size (.slice (some ⟨b, 0, none⟩) n n) n xs := by
  refine ⟨hn, some ⟨b, 0, none⟩, n, rfl, Nat.le_refl _, fun j u hj => ⟨b, 0, rfl, ?_⟩⟩
  rw [cellOf h, Nat.zero_add]
  simpa using hj
theorem st6z {w : World} {p t : Nat} {fr : Nat × Nat} {a0 a1 a2 a3 a4 a5 x0 x1 x2 x3 x4 x5 : Value} (hz : w.heap[p]? = some (.cells #[a0, a1, a2, a3, a4, a5] t fr)) : ((((((w.setCell ⟨p, 0, none⟩ (x0)).setCell ⟨p, 1, none⟩ (x1)).setCell ⟨p, 2, none⟩ (x2)).setCell ⟨p, 3, none⟩ (x3)).setCell ⟨p, 4, none⟩ (x4)).setCell ⟨p, 5, none⟩ (x5)).heap[p]? = some (.cells #[x0, x1, x2, x3, x4, x5] t fr) := by
  have h0 : (w.setCell ⟨p, 0, none⟩ x0).heap[p]? = some (.cells #[x0, a1, a2, a3, a4, a5] t fr) := by rw [heapSet hz]; rfl
  revert h0
  generalize w.setCell ⟨p, 0, none⟩ x0 = w0
  intro h0
  have h1 : (w0.setCell ⟨p, 1, none⟩ x1).heap[p]? = some (.cells #[x0, x1, a2, a3, a4, a5] t fr) := by rw [heapSet h0]; rfl
  revert h1
  generalize w0.setCell ⟨p, 1, none⟩ x1 = w1
  intro h1
  have h2 : (w1.setCell ⟨p, 2, none⟩ x2).heap[p]? = some (.cells #[x0, x1, x2, a3, a4, a5] t fr) := by rw [heapSet h1]; rfl
  revert h2
  generalize w1.setCell ⟨p, 2, none⟩ x2 = w2
  intro h2
  have h3 : (w2.setCell ⟨p, 3, none⟩ x3).heap[p]? = some (.cells #[x0, x1, x2, x3, a4, a5] t fr) := by rw [heapSet h2]; rfl
  revert h3
  generalize w2.setCell ⟨p, 3, none⟩ x3 = w3
  intro h3
  have h4 : (w3.setCell ⟨p, 4, none⟩ x4).heap[p]? = some (.cells #[x0, x1, x2, x3, x4, a5] t fr) := by rw [heapSet h3]; rfl
  revert h4
  generalize w3.setCell ⟨p, 4, none⟩ x4 = w4
  intro h4
  have h5 : (w4.setCell ⟨p, 5, none⟩ x5).heap[p]? = some (.cells #[x0, x1, x2, x3, x4, x5] t fr) := by rw [heapSet h4]; rfl
  revert h5
  generalize w4.setCell ⟨p, 5, none⟩ x5 = w5
  intro h5
  exact h5
theorem modSet6z {F : List Nat} {v w : World} {p : Nat} {x0 x1 x2 x3 x4 x5 : Value} (h : Mod F v w) (hn : p ∈ F ∨ v.heap.size ≤ p) : Mod F v ((((((w.setCell ⟨p, 0, none⟩ (x0)).setCell ⟨p, 1, none⟩ (x1)).setCell ⟨p, 2, none⟩ (x2)).setCell ⟨p, 3, none⟩ (x3)).setCell ⟨p, 4, none⟩ (x4)).setCell ⟨p, 5, none⟩ (x5)) := ((((((h).set (p := ⟨p, 0, none⟩) hn x0).set (p := ⟨p, 1, none⟩) hn x1).set (p := ⟨p, 2, none⟩) hn x2).set (p := ⟨p, 3, none⟩) hn x3).set (p := ⟨p, 4, none⟩) hn x4).set (p := ⟨p, 5, none⟩) hn x5
theorem setNe6z {w : World} {p q : Nat} {o : Obj} {x0 x1 x2 x3 x4 x5 : Value} (h : w.heap[q]? = some o) (hn : q ≠ p) : ((((((w.setCell ⟨p, 0, none⟩ (x0)).setCell ⟨p, 1, none⟩ (x1)).setCell ⟨p, 2, none⟩ (x2)).setCell ⟨p, 3, none⟩ (x3)).setCell ⟨p, 4, none⟩ (x4)).setCell ⟨p, 5, none⟩ (x5)).heap[q]? = some o := heapSetNe (heapSetNe (heapSetNe (heapSetNe (heapSetNe (heapSetNe (h) hn) hn) hn) hn) hn) hn
theorem load6y {w : World} {p : Nat} {K : Value → World → Prop} {x0 x1 x2 x3 x4 x5 : Value} (hh : w.heap[p]? = some (.cells #[x0, x1, x2, x3, x4, x5] 26 (0, 0))) (hK : K (.agg #[x0, x1, x2, x3, x4, x5]) w) : loadW TT 26 (.pointer (some ⟨p, 0, none⟩)) w K := by
  have c := fun o => cellOf (o := o) hh
  exact ⟨_, c 0, _, c 1, _, c 2, _, c 3, _, c 4, _, c 5, hK⟩
def OM : List Mb := [(1, [100, 0])]
def BD : List UInt8 := (bodyS (0, 1, 1) 3 OM 1).1
def TG : List UInt8 := (tagS (0, 1, 1) 3 OM 1).1
theorem alB : bodyS (0, 1, 1) 3 OM 1 = (BD, 0) := by
  have : (bodyS (0, 1, 1) 3 OM 1).2 = 0 := by decide +kernel
  rw [← this]
  rfl
theorem alB2 : bodyS (0, 1, 1) 3 OM 2 = ([], 2) := by decide +kernel
theorem alTg : tagS (0, 1, 1) 3 OM 1 = (TG, 0) := by
  have : (tagS (0, 1, 1) 3 OM 1).2 = 0 := by decide +kernel
  rw [← this]
  rfl
theorem alNe : ¬ TG = BD := by decide +kernel
def PT1 : List UInt8 := (partsS BD).getD 1 []
def PT2 : List UInt8 := (partsS BD).getD 2 []
def PT4 : List UInt8 := (partsS BD).getD 4 []
theorem alP : partsS BD = [[100, 6, 98, 97, 108, 108, 111, 116], PT1, PT2, [114, 1, 114, 2, 100, 1, 1, 100, 0], PT4] := by decide +kernel
theorem alC : checkS BD = 0 := by decide +kernel
theorem alL : BD.length ≤ maxLen := by have := body_len (0, 1, 1) 3 OM 1; unfold BD maxLen; omega
set_option maxRecDepth 20000 in
set_option maxHeartbeats 4000000 in
theorem one13_cps (w : World) (R : Ending → World → Prop) (hR : ∀ sm w', Rd w' 2 sm OM.length (OM.flatMap mbC) → Mod [] w w' → R (.returned (balV (0, 1, 1) 3 sm 1)) w') :
    Calls Tryd.prog 16 #[] w R := by
  refine calls_go 4000 okT Tryd.func16 rfl (rs := [.cell 0 26]) rfl Tryd.ntmps16 (args := []) ?_
  simp (maxSteps := 1000000) (disch := first | omega | (simp only [sizeAlloc, sizeDrew, sizeSet, sizePut] <;> omega) | fail) only [GS, TT_eq, TTl, Nat.reduceAdd, Nat.reduceMul, Nat.reduceSub, Nat.reduceDiv, Nat.reduceMod, Nat.reducePow, Nat.reduceEqDiff, ↓reduceIte, reduceCtorEq, Int.reduceToNat, Int.reduceAdd, Int.reduceSub, Int.reduceMul]
  generalize hW : ((((((((w.alloc (.cells #[.int .i64 0, .int .i64 0, .int .i64 0, .int .i64 0, .slice none 0 0, .int .i64 0] 26)).alloc (.cells #[.int .i64 1, .string ⟨#[100, 0]⟩] 45)).setCell ⟨w.heap.size, 0, none⟩ (.int .i64 0)).setCell ⟨w.heap.size, 1, none⟩ (.int .i64 1)).setCell ⟨w.heap.size, 2, none⟩ (.int .i64 1)).setCell ⟨w.heap.size, 3, none⟩ (.int .i64 3)).setCell ⟨w.heap.size, 4, none⟩ (.slice (some ⟨w.heap.size + 1, 0, none⟩) 1 1)).setCell ⟨w.heap.size, 5, none⟩ (.int .i64 1)) = w1
  obtain ⟨hA, hrd, hM⟩ : w1.heap[w.heap.size]? = some (.cells #[.int .i64 0, .int .i64 1, .int .i64 1, .int .i64 3, .slice (some ⟨w.heap.size + 1, 0, none⟩) 1 1, .int .i64 1] 26 (0, 0)) ∧ Rd w1 2 (.slice (some ⟨w.heap.size + 1, 0, none⟩) 1 1) OM.length (OM.flatMap mbC) ∧ Mod [] w w1 := by
    subst hW
    have h0 := heapAlloc (o' := .cells #[.int .i64 1, .string ⟨#[100, 0]⟩] 45) (heapNew (w := w) (o := (.cells #[.int .i64 0, .int .i64 0, .int .i64 0, .int .i64 0, .slice none 0 0, .int .i64 0] 26)))
    have h1 := heapNew (w := w.alloc (.cells #[.int .i64 0, .int .i64 0, .int .i64 0, .int .i64 0, .slice none 0 0, .int .i64 0] 26)) (o := .cells #[.int .i64 1, .string ⟨#[100, 0]⟩] 45)
    rw [sizeAlloc] at h1
    refine ⟨st6z h0, rdBlk (xs := [.int .i64 1, .string ⟨#[100, 0]⟩]) (setNe6z h1 (by omega)) rfl, modSet6z (((Mod.refl [] w).alloc _).alloc _) (.inr (Nat.le_refl _))⟩
  clear hW
  refine load6y hA ?_
  exact hR _ _ hrd hM
set_option maxRecDepth 20000 in
set_option maxHeartbeats 4000000 in
theorem bTagN_cps (x : Tx) (aud : Int) (ms : Value) (org : Int) (os : ms.oneCell' = true) (w : World) (R : Ending → World → Prop) (hR : ∀ w', Mod [] w w' → R (.returned (.tuple #[.string ⟨#[]⟩, .int .i64 1])) w') :
    Calls Tryd.prog 8 #[.pointer none, balV x aud ms org] w R := by
  obtain ⟨a, b, c⟩ := x
  unfold balV
  simp only
  refine calls_go 4000 okT Tryd.func8 rfl (rs := [.tmp 4, .tmp 5]) rfl Tryd.ntmps8 (args := [.pointer none, .agg #[.int .i64 a, .int .i64 b, .int .i64 c, .int .i64 aud, ms, .int .i64 org]]) ?_
  simp (maxSteps := 1000000) (disch := first | omega | (simp only [sizeAlloc, sizeDrew, sizeSet, sizePut] <;> omega) | fail) only [GS, TT_eq, TTl, Nat.reduceAdd, Nat.reduceMul, Nat.reduceSub, Nat.reduceDiv, Nat.reduceMod, Nat.reducePow, Nat.reduceEqDiff, ↓reduceIte, reduceCtorEq, Int.reduceToNat, Int.reduceAdd, Int.reduceSub, Int.reduceMul, os, cellsL_one os]
  exact hR _ ((Mod.refl [] w).alloc _)
set_option maxRecDepth 20000 in
set_option maxHeartbeats 4000000 in
theorem bFitsN_cps (x : Tx) (aud : Int) (ms : Value) (org : Int) (os : ms.oneCell' = true) (t : List UInt8) (w : World) (R : Ending → World → Prop) (hR : ∀ w', Mod [] w w' → R (.returned (.bool false)) w') :
    Calls Tryd.prog 10 #[.pointer none, balV x aud ms org, .string ⟨t.toArray⟩] w R := by
  have hT := bTagN_cps x aud ms org os
  obtain ⟨a, b, c⟩ := x
  unfold balV at hT ⊢
  simp only at hT ⊢
  refine calls_go 4000 okT Tryd.func10 rfl (rs := [.tmp 6]) rfl Tryd.ntmps10 (args := [.pointer none, .agg #[.int .i64 a, .int .i64 b, .int .i64 c, .int .i64 aud, ms, .int .i64 org], .string ⟨t.toArray⟩]) ?_
  simp (maxSteps := 1000000) (disch := first | omega | (simp only [sizeAlloc, sizeDrew, sizeSet, sizePut] <;> omega) | fail) only [GS, TT_eq, TTl, Nat.reduceAdd, Nat.reduceMul, Nat.reduceSub, Nat.reduceDiv, Nat.reduceMod, Nat.reducePow, Nat.reduceEqDiff, ↓reduceIte, reduceCtorEq, Int.reduceToNat, Int.reduceAdd, Int.reduceSub, Int.reduceMul, os, cellsL_one os]
  generalize hW : w.alloc (.cells #[.int .i64 a, .int .i64 b, .int .i64 c, .int .i64 aud, ms, .int .i64 org] 26) = w1
  obtain ⟨hA, hM0⟩ := bx6 hW
  clear hW
  refine ⟨fok8, hT _ _ fun w2 hM2 => .inl ⟨_, rfl, hold_ops okT (rs := [.tmp 6]) rfl ?_⟩⟩
  simp (maxSteps := 1000000) (disch := first | omega | (simp only [sizeAlloc, sizeDrew, sizeSet, sizePut] <;> omega) | fail) only [GS, TT_eq, TTl, Nat.reduceAdd, Nat.reduceMul, Nat.reduceSub, Nat.reduceDiv, Nat.reduceMod, Nat.reducePow, Nat.reduceEqDiff, ↓reduceIte, reduceCtorEq, Int.reduceToNat, Int.reduceAdd, Int.reduceSub, Int.reduceMul]
  exact hR _ (hM0.trans hM2 (by simp))
set_option maxRecDepth 20000 in
set_option maxHeartbeats 32000000 in
theorem alive13_cps (w : World) (hg : KG w) (R : Ending → World → Prop) (hR : ∀ w', Mod [] w w' → R (.returned (.bool true)) w') :
    Calls Tryd.prog 6 #[] w R := by
  refine calls_go 4000 okT Tryd.func6 rfl (rs := [.tmp 0]) rfl Tryd.ntmps6 (args := []) ?_
  have hM0 := Mod.refl [] w
  have hO := one13_cps
  unfold balV at hO
  simp (maxSteps := 1000000) (disch := first | omega | (simp only [sizeAlloc, sizeDrew, sizeSet, sizePut] <;> omega) | fail) only [GS, TT_eq, TTl, Nat.reduceAdd, Nat.reduceMul, Nat.reduceSub, Nat.reduceDiv, Nat.reduceMod, Nat.reducePow, Nat.reduceEqDiff, ↓reduceIte, reduceCtorEq, Int.reduceToNat, Int.reduceAdd, Int.reduceSub, Int.reduceMul]
  refine ⟨fok7, sNew_cps [] w _ fun s u1 hs hM_ => .inl ⟨_, rfl, hold_ops okT (rs := [.tmp 0]) rfl ?_⟩⟩
  replace hg := hg.mod hM_ (by simp)
  replace hM0 := hM0.trans hM_ (by simp)
  simp (maxSteps := 1000000) (disch := first | omega | (simp only [sizeAlloc, sizeDrew, sizeSet, sizePut] <;> omega) | fail) only [GS, TT_eq, TTl, Nat.reduceAdd, Nat.reduceMul, Nat.reduceSub, Nat.reduceDiv, Nat.reduceMod, Nat.reducePow, Nat.reduceEqDiff, ↓reduceIte, reduceCtorEq, Int.reduceToNat, Int.reduceAdd, Int.reduceSub, Int.reduceMul]
  refine ⟨fok16, hO _ _ fun sa u2 rsa hM_ => .inl ⟨_, rfl, hold_ops okT (rs := [.tmp 0]) rfl ?_⟩⟩
  replace hg := hg.mod hM_ (by simp)
  replace hs := hs.mod hM_
  replace hM0 := hM0.trans hM_ (by simp)
  have osa : sa.oneCell' = true := by obtain ⟨_, _, e⟩ := rsa.slice; rw [e]; rfl
  simp (maxSteps := 1000000) (disch := first | omega | (simp only [sizeAlloc, sizeDrew, sizeSet, sizePut] <;> omega) | fail) only [GS, TT_eq, TTl, Nat.reduceAdd, Nat.reduceMul, Nat.reduceSub, Nat.reduceDiv, Nat.reduceMod, Nat.reducePow, Nat.reduceEqDiff, ↓reduceIte, reduceCtorEq, Int.reduceToNat, Int.reduceAdd, Int.reduceSub, Int.reduceMul]
  have hB := fun w h => bBody_cps (0, 1, 1) 3 sa OM 1 w (by decide) (fun m hm => by unfold OM at hm; simp only [List.mem_singleton] at hm; subst hm; unfold maxLen; decide) h
  rw [alB] at hB
  unfold balV stV at hB
  simp only at hB
  refine ⟨fok15, hB _ rsa _ fun  u3 hM_ => .inl ⟨_, rfl, hold_ops okT (rs := [.tmp 0]) rfl ?_⟩⟩
  replace hg := hg.mod hM_ (by simp)
  replace hs := hs.mod hM_
  replace hM0 := hM0.trans hM_ (by simp)
  replace rsa := rsa.mod hM_ (by simp)
  simp (maxSteps := 1000000) (disch := first | omega | (simp only [sizeAlloc, sizeDrew, sizeSet, sizePut] <;> omega) | fail) only [GS, TT_eq, TTl, Nat.reduceAdd, Nat.reduceMul, Nat.reduceSub, Nat.reduceDiv, Nat.reduceMod, Nat.reducePow, Nat.reduceEqDiff, ↓reduceIte, reduceCtorEq, Int.reduceToNat, Int.reduceAdd, Int.reduceSub, Int.reduceMul]
  refine ⟨fok17, tParts_cps BD alL _ _ (fun h => absurd alC h) (fun _ pv u4 hP hM_ => .inl ⟨_, rfl, hold_ops okT (rs := [.tmp 0]) rfl ?_⟩)⟩
  replace hg := hg.mod hM_ (by simp)
  replace hs := hs.mod hM_
  replace hM0 := hM0.trans hM_ (by simp)
  replace rsa := rsa.mod hM_ (by simp)
  rw [alP] at hP
  have hpR := Rd.own hP
  obtain ⟨pa, pc, rfl⟩ := hpR.slice
  obtain ⟨b1, o1, c1, e1, _, g1⟩ := hpR.at (by simp) (by simp)
  have f0 : u4.cell? ⟨b1, o1, none⟩ = some (.string ⟨#[100, 6, 98, 97, 108, 108, 111, 116]⟩) := g1 0 _ rfl
  have f3 : u4.cell? ⟨b1, o1 + 3, none⟩ = some (.string ⟨#[114, 1, 114, 2, 100, 1, 1, 100, 0]⟩) := g1 3 _ rfl
  rw [Value.slice.injEq] at e1
  obtain ⟨rfl, -, rfl⟩ := e1
  clear g1
  simp (maxSteps := 1000000) (disch := first | omega | (simp only [sizeAlloc, sizeDrew, sizeSet, sizePut] <;> omega) | fail) only [GS, TT_eq, TTl, Nat.reduceAdd, Nat.reduceMul, Nat.reduceSub, Nat.reduceDiv, Nat.reduceMod, Nat.reducePow, Nat.reduceEqDiff, ↓reduceIte, reduceCtorEq, Int.reduceToNat, Int.reduceAdd, Int.reduceSub, Int.reduceMul, f0, f3, eq_self]
  refine ⟨fok16, hO _ _ fun sb u5 rsb hM_ => .inl ⟨_, rfl, hold_stop (s' := some 10) (hold_ops okT (rs := [.tmp 0]) rfl ?_)⟩⟩
  replace hg := hg.mod hM_ (by simp)
  replace hs := hs.mod hM_
  replace hM0 := hM0.trans hM_ (by simp)
  replace rsa := rsa.mod hM_ (by simp)
  have osb : sb.oneCell' = true := by obtain ⟨_, _, e⟩ := rsb.slice; rw [e]; rfl
  simp (maxSteps := 1000000) (disch := first | omega | (simp only [sizeAlloc, sizeDrew, sizeSet, sizePut] <;> omega) | fail) only [GS, TT_eq, TTl, Nat.reduceAdd, Nat.reduceMul, Nat.reduceSub, Nat.reduceDiv, Nat.reduceMod, Nat.reducePow, Nat.reduceEqDiff, ↓reduceIte, reduceCtorEq, Int.reduceToNat, Int.reduceAdd, Int.reduceSub, Int.reduceMul, osb, cellsL_one osb]
  generalize hW_ : ((((((((u5.alloc (.cells #[.int .i64 0, .int .i64 0, .int .i64 0, .int .i64 0, .slice none 0 0, .int .i64 0] 26)).setCell ⟨u5.heap.size, 0, none⟩ (.int .i64 0)).setCell ⟨u5.heap.size, 1, none⟩ (.int .i64 1)).setCell ⟨u5.heap.size, 2, none⟩ (.int .i64 1)).setCell ⟨u5.heap.size, 3, none⟩ (.int .i64 3)).setCell ⟨u5.heap.size, 4, none⟩ (sb)).setCell ⟨u5.heap.size, 5, none⟩ (.int .i64 1)).setCell ⟨u5.heap.size, 5, none⟩ (.int .i64 2)) = u6
  obtain ⟨bQ, hM_⟩ : u6.heap[u5.heap.size]? = some (.cells #[.int .i64 0, .int .i64 1, .int .i64 1, .int .i64 3, sb, .int .i64 2] 26 (0, 0)) ∧ Mod [] u5 u6 := by
    subst hW_
    have h1 := st6z (x0 := .int .i64 0) (x1 := .int .i64 1) (x2 := .int .i64 1) (x3 := .int .i64 3) (x4 := sb) (x5 := .int .i64 1) (heapNew (w := u5) (o := (.cells #[.int .i64 0, .int .i64 0, .int .i64 0, .int .i64 0, .slice none 0 0, .int .i64 0] 26)))
    refine ⟨?_, (modSet6z ((Mod.refl [] u5).alloc _) (.inr (Nat.le_refl _))).set (p := ⟨u5.heap.size, 5, none⟩) (.inr (Nat.le_refl _)) (.int .i64 2)⟩
    rw [heapSet h1]
    rfl
  clear hW_
  replace hg := hg.mod hM_ (by simp)
  replace hs := hs.mod hM_
  replace hM0 := hM0.trans hM_ (by simp)
  replace rsa := rsa.mod hM_ (by simp)
  replace rsb := rsb.mod hM_ (by simp)
  generalize u5.heap.size = qb at *
  refine hold_stop (s' := none) ?_
  refine hold_code okT (rs := [.tmp 0]) rfl ?_
  have c_bQ := fun o => cellOf (o := o) bQ
  simp (maxSteps := 1000000) (disch := first | omega | (simp only [sizeAlloc, sizeDrew, sizeSet, sizePut] <;> omega) | fail) only [GS, TT_eq, TTl, Nat.reduceAdd, Nat.reduceMul, Nat.reduceSub, Nat.reduceDiv, Nat.reduceMod, Nat.reducePow, Nat.reduceEqDiff, ↓reduceIte, reduceCtorEq, Int.reduceToNat, Int.reduceAdd, Int.reduceSub, Int.reduceMul, c_bQ]
  have hB2 := fun w h => bBody_cps (0, 1, 1) 3 sb OM 2 w (by decide) (fun m hm => by unfold OM at hm; simp only [List.mem_singleton] at hm; subst hm; unfold maxLen; decide) h
  rw [alB2] at hB2
  unfold balV stV at hB2
  simp only at hB2
  refine ⟨fok15, hB2 _ rsb _ fun  u7 hM_ => .inl ⟨_, rfl, hold_ops okT (rs := [.tmp 0]) rfl ?_⟩⟩
  replace hg := hg.mod hM_ (by simp)
  replace hs := hs.mod hM_
  replace hM0 := hM0.trans hM_ (by simp)
  replace rsa := rsa.mod hM_ (by simp)
  replace rsb := rsb.mod hM_ (by simp)
  replace bQ := hM_.get bQ (by simp)
  simp (maxSteps := 1000000) (disch := first | omega | (simp only [sizeAlloc, sizeDrew, sizeSet, sizePut] <;> omega) | fail) only [GS, TT_eq, TTl, Nat.reduceAdd, Nat.reduceMul, Nat.reduceSub, Nat.reduceDiv, Nat.reduceMod, Nat.reducePow, Nat.reduceEqDiff, ↓reduceIte, reduceCtorEq, Int.reduceToNat, Int.reduceAdd, Int.reduceSub, Int.reduceMul]
  refine ⟨fok16, hO _ _ fun sc u8 rsc hM_ => .inl ⟨_, rfl, hold_ops okT (rs := [.tmp 0]) rfl ?_⟩⟩
  replace hg := hg.mod hM_ (by simp)
  replace hs := hs.mod hM_
  replace hM0 := hM0.trans hM_ (by simp)
  replace rsa := rsa.mod hM_ (by simp)
  replace rsb := rsb.mod hM_ (by simp)
  replace bQ := hM_.get bQ (by simp)
  have osc : sc.oneCell' = true := by obtain ⟨_, _, e⟩ := rsc.slice; rw [e]; rfl
  simp (maxSteps := 1000000) (disch := first | omega | (simp only [sizeAlloc, sizeDrew, sizeSet, sizePut] <;> omega) | fail) only [GS, TT_eq, TTl, Nat.reduceAdd, Nat.reduceMul, Nat.reduceSub, Nat.reduceDiv, Nat.reduceMod, Nat.reducePow, Nat.reduceEqDiff, ↓reduceIte, reduceCtorEq, Int.reduceToNat, Int.reduceAdd, Int.reduceSub, Int.reduceMul]
  have hT := fun w h => bTag_cps s (0, 1, 1) 3 sc OM 1 w (by decide) (fun m hm => by unfold OM at hm; simp only [List.mem_singleton] at hm; subst hm; unfold maxLen; decide) h
  rw [alTg] at hT
  unfold balV stV at hT
  simp only at hT
  refine ⟨fok8, hT _ rsc hs hg _ fun  u9 hM_ => .inl ⟨_, rfl, hold_ops okT (rs := [.tmp 0]) rfl ?_⟩⟩
  replace hg := hg.mod hM_ (by simp)
  replace hs := hs.mod hM_
  replace hM0 := hM0.trans hM_ (by simp)
  replace rsa := rsa.mod hM_ (by simp)
  replace rsb := rsb.mod hM_ (by simp)
  replace bQ := hM_.get bQ (by simp)
  replace rsc := rsc.mod hM_ (by simp)
  simp (maxSteps := 1000000) (disch := first | omega | (simp only [sizeAlloc, sizeDrew, sizeSet, sizePut] <;> omega) | fail) only [GS, TT_eq, TTl, Nat.reduceAdd, Nat.reduceMul, Nat.reduceSub, Nat.reduceDiv, Nat.reduceMod, Nat.reducePow, Nat.reduceEqDiff, ↓reduceIte, reduceCtorEq, Int.reduceToNat, Int.reduceAdd, Int.reduceSub, Int.reduceMul]
  refine ⟨fok16, hO _ _ fun sd u10 rsd hM_ => .inl ⟨_, rfl, hold_ops okT (rs := [.tmp 0]) rfl ?_⟩⟩
  replace hg := hg.mod hM_ (by simp)
  replace hs := hs.mod hM_
  replace hM0 := hM0.trans hM_ (by simp)
  replace rsa := rsa.mod hM_ (by simp)
  replace rsb := rsb.mod hM_ (by simp)
  replace bQ := hM_.get bQ (by simp)
  replace rsc := rsc.mod hM_ (by simp)
  have osd : sd.oneCell' = true := by obtain ⟨_, _, e⟩ := rsd.slice; rw [e]; rfl
  simp (maxSteps := 1000000) (disch := first | omega | (simp only [sizeAlloc, sizeDrew, sizeSet, sizePut] <;> omega) | fail) only [GS, TT_eq, TTl, Nat.reduceAdd, Nat.reduceMul, Nat.reduceSub, Nat.reduceDiv, Nat.reduceMod, Nat.reducePow, Nat.reduceEqDiff, ↓reduceIte, reduceCtorEq, Int.reduceToNat, Int.reduceAdd, Int.reduceSub, Int.reduceMul]
  have hF := fun t w h => bFits_cps s (0, 1, 1) 3 sd OM 1 t w (by decide) (fun m hm => by unfold OM at hm; simp only [List.mem_singleton] at hm; subst hm; unfold maxLen; decide) h
  rw [alTg] at hF
  unfold balV at hF
  simp only [decide_true, Bool.true_and] at hF
  have hF1 := hF TG
  rw [decide_eq_true (rfl : TG = TG)] at hF1
  refine ⟨fok10, hF1 _ rsd hs hg _ fun  u11 hM_ => .inl ⟨_, rfl, hold_ops okT (rs := [.tmp 0]) rfl ?_⟩⟩
  replace hg := hg.mod hM_ (by simp)
  replace hs := hs.mod hM_
  replace hM0 := hM0.trans hM_ (by simp)
  replace rsa := rsa.mod hM_ (by simp)
  replace rsb := rsb.mod hM_ (by simp)
  replace bQ := hM_.get bQ (by simp)
  replace rsc := rsc.mod hM_ (by simp)
  replace rsd := rsd.mod hM_ (by simp)
  simp (maxSteps := 1000000) (disch := first | omega | (simp only [sizeAlloc, sizeDrew, sizeSet, sizePut] <;> omega) | fail) only [GS, TT_eq, TTl, Nat.reduceAdd, Nat.reduceMul, Nat.reduceSub, Nat.reduceDiv, Nat.reduceMod, Nat.reducePow, Nat.reduceEqDiff, ↓reduceIte, reduceCtorEq, Int.reduceToNat, Int.reduceAdd, Int.reduceSub, Int.reduceMul]
  refine ⟨fok16, hO _ _ fun se u12 rse hM_ => .inl ⟨_, rfl, hold_ops okT (rs := [.tmp 0]) rfl ?_⟩⟩
  replace hg := hg.mod hM_ (by simp)
  replace hs := hs.mod hM_
  replace hM0 := hM0.trans hM_ (by simp)
  replace rsa := rsa.mod hM_ (by simp)
  replace rsb := rsb.mod hM_ (by simp)
  replace bQ := hM_.get bQ (by simp)
  replace rsc := rsc.mod hM_ (by simp)
  replace rsd := rsd.mod hM_ (by simp)
  have ose : se.oneCell' = true := by obtain ⟨_, _, e⟩ := rse.slice; rw [e]; rfl
  simp (maxSteps := 1000000) (disch := first | omega | (simp only [sizeAlloc, sizeDrew, sizeSet, sizePut] <;> omega) | fail) only [GS, TT_eq, TTl, Nat.reduceAdd, Nat.reduceMul, Nat.reduceSub, Nat.reduceDiv, Nat.reduceMod, Nat.reducePow, Nat.reduceEqDiff, ↓reduceIte, reduceCtorEq, Int.reduceToNat, Int.reduceAdd, Int.reduceSub, Int.reduceMul]
  have hG := fun t w h => bFits_cps s (0, 1, 1) 3 se OM 1 t w (by decide) (fun m hm => by unfold OM at hm; simp only [List.mem_singleton] at hm; subst hm; unfold maxLen; decide) h
  rw [alTg] at hG
  unfold balV at hG
  simp only [decide_true, Bool.true_and] at hG
  have hG1 := hG BD
  rw [decide_eq_false alNe] at hG1
  refine ⟨fok10, hG1 _ rse hs hg _ fun  u13 hM_ => .inl ⟨_, rfl, hold_ops okT (rs := [.tmp 0]) rfl ?_⟩⟩
  replace hg := hg.mod hM_ (by simp)
  replace hs := hs.mod hM_
  replace hM0 := hM0.trans hM_ (by simp)
  replace rsa := rsa.mod hM_ (by simp)
  replace rsb := rsb.mod hM_ (by simp)
  replace bQ := hM_.get bQ (by simp)
  replace rsc := rsc.mod hM_ (by simp)
  replace rsd := rsd.mod hM_ (by simp)
  replace rse := rse.mod hM_ (by simp)
  simp (maxSteps := 1000000) (disch := first | omega | (simp only [sizeAlloc, sizeDrew, sizeSet, sizePut] <;> omega) | fail) only [GS, TT_eq, TTl, Nat.reduceAdd, Nat.reduceMul, Nat.reduceSub, Nat.reduceDiv, Nat.reduceMod, Nat.reducePow, Nat.reduceEqDiff, ↓reduceIte, reduceCtorEq, Int.reduceToNat, Int.reduceAdd, Int.reduceSub, Int.reduceMul]
  refine ⟨fok16, hO _ _ fun sf u14 rsf hM_ => .inl ⟨_, rfl, hold_ops okT (rs := [.tmp 0]) rfl ?_⟩⟩
  replace hg := hg.mod hM_ (by simp)
  replace hs := hs.mod hM_
  replace hM0 := hM0.trans hM_ (by simp)
  replace rsa := rsa.mod hM_ (by simp)
  replace rsb := rsb.mod hM_ (by simp)
  replace bQ := hM_.get bQ (by simp)
  replace rsc := rsc.mod hM_ (by simp)
  replace rsd := rsd.mod hM_ (by simp)
  replace rse := rse.mod hM_ (by simp)
  have osf : sf.oneCell' = true := by obtain ⟨_, _, e⟩ := rsf.slice; rw [e]; rfl
  simp (maxSteps := 1000000) (disch := first | omega | (simp only [sizeAlloc, sizeDrew, sizeSet, sizePut] <;> omega) | fail) only [GS, TT_eq, TTl, Nat.reduceAdd, Nat.reduceMul, Nat.reduceSub, Nat.reduceDiv, Nat.reduceMod, Nat.reducePow, Nat.reduceEqDiff, ↓reduceIte, reduceCtorEq, Int.reduceToNat, Int.reduceAdd, Int.reduceSub, Int.reduceMul]
  have hN := bFitsN_cps (0, 1, 1) 3 sf 1 osf TG
  unfold balV at hN
  simp only at hN
  refine ⟨fok10, hN _ _ fun  u15 hM_ => .inl ⟨_, rfl, hold_ops okT (rs := [.tmp 0]) rfl ?_⟩⟩
  replace hg := hg.mod hM_ (by simp)
  replace hs := hs.mod hM_
  replace hM0 := hM0.trans hM_ (by simp)
  replace rsa := rsa.mod hM_ (by simp)
  replace rsb := rsb.mod hM_ (by simp)
  replace bQ := hM_.get bQ (by simp)
  replace rsc := rsc.mod hM_ (by simp)
  replace rsd := rsd.mod hM_ (by simp)
  replace rse := rse.mod hM_ (by simp)
  replace rsf := rsf.mod hM_ (by simp)
  simp (maxSteps := 1000000) (disch := first | omega | (simp only [sizeAlloc, sizeDrew, sizeSet, sizePut] <;> omega) | fail) only [GS, TT_eq, TTl, Nat.reduceAdd, Nat.reduceMul, Nat.reduceSub, Nat.reduceDiv, Nat.reduceMod, Nat.reducePow, Nat.reduceEqDiff, ↓reduceIte, reduceCtorEq, Int.reduceToNat, Int.reduceAdd, Int.reduceSub, Int.reduceMul]
  exact hR _ hM0
end Go.Proofs.YthnlmmkhehphiaaDoor
