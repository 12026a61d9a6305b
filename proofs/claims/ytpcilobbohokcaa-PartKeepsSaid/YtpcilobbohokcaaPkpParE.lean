/-
  part: asked, alive (walks).
-/
import Derived.Test.YtpcilobbohokcaaPkpParD
set_option linter.unusedSimpArgs false
set_option linter.unusedVariables false
namespace Go.Proofs.Ytpcilobbohokcaa
open Go Go.Wk Go.RowKit
attribute [local irreducible] go Hold
open Go.Lib
theorem rdBlock {w : World} {b e n size : Nat} {xs : List Value} (h : w.heap[b]? = some (.cells xs.toArray e (0, 0))) (hn : xs.length = n * size) : Rd w size (.slice (some ⟨b, 0, none⟩) n n) n xs := by
  refine ⟨hn, some ⟨b, 0, none⟩, n, rfl, Nat.le_refl _, fun j u hj => ⟨b, 0, rfl, ?_⟩⟩
  rw [cellOf h, Nat.zero_add]
  simpa using hj
def PM : Msg := ⟨1, (0, 1, 1), 3, [(1, [100, 0])], [100, 0], false, []⟩
def P1 : Pt := ⟨(0, 1, 1), 3, [(1, [100, 0])], 1, [100, 1, 112], 1, [], -1⟩
def P5 : Pt := ⟨(0, 1, 1), 3, [(1, [100, 0])], 1, [100, 1, 112], 5, [], -1⟩
def P2 : Pt := ⟨(0, 1, 1), 3, [(1, [100, 0])], 1, [100, 1, 112], 2, [100, 0], -1⟩
def P4 : Pt := ⟨(0, 1, 1), 3, [(1, [100, 0])], 1, [100, 1, 112], 4, [100, 0], -1⟩
theorem alPr : prB PM 1 = true := by decide +kernel
theorem pal1 : mayPt P1 = true := by decide +kernel
theorem pal5 : mayPt P5 = true := by decide +kernel
theorem pal2 : mayPt P2 = true := by decide +kernel
theorem pal4 : mayPt P4 = true := by decide +kernel
theorem alN : newE PM 1 1 [100, 1, 112] = .ok P1 := by
  unfold newE
  rw [alPr, show newP PM 1 [100, 1, 112] = P1 from rfl, pal1]
  rfl
theorem alL1 : learnE P1 true = .error 8 := by
  unfold learnE
  rw [if_pos pal1]
  rfl
theorem alL0 : learnE P1 false = .ok P5 := by
  unfold learnE
  rw [if_pos pal1]
  rfl
theorem alV : voteE P1 true [100, 0] = .ok P2 := by
  unfold voteE
  rw [if_pos pal1, if_pos rfl, if_pos (by decide +kernel)]
  rfl
theorem alL2 : learnE P2 true = .ok P4 := by
  unfold learnE
  rw [if_pos pal2]
  rfl
theorem alL4 : learnE P4 false = .error 8 := by
  unfold learnE
  rw [if_pos pal4]
  rfl
theorem alW5 : whatM P5 = (⟨4, (0, 1, 1), 0, [], [], false, []⟩, true) := by
  unfold whatM
  rw [if_pos ⟨pal5, by decide⟩]
  rfl
theorem alW2 : whatM P2 = (⟨2, (0, 1, 1), 0, [], [], true, [100, 0]⟩, true) := by
  unfold whatM
  rw [if_pos ⟨pal2, by decide⟩]
  rfl
theorem p_in {w : World} {p : Pt} {cv : Value} (hm : p.mbs = [(1, [100, 0])]) (hb : p.body = [100, 1, 112]) (ht : p.tag.length ≤ 2) (hs : p.sent = -1) (hst : p.st < 256) (h : Rd w 2 cv 1 ([((1 : Int), ([100, 0] : List UInt8))].flatMap mbC)) : PtIn w p cv :=
  ⟨hst, by rw [hs]; exact (show -9223372036854775808 ≤ (-1 : Int) ∧ (-1 : Int) ≤ 9223372036854775807 by decide), by rw [hm]; decide, by rw [hm]; unfold maxLen; decide, by rw [hm]; exact h, by rw [hb]; unfold maxLen; decide, by unfold maxLen; omega⟩
set_option maxRecDepth 20000 in
set_option maxHeartbeats 8000000 in
theorem asked_cps (w : World) (R : Ending → World → Prop) (hR : ∀ cv w', w'.ownsRow w.heap.size 59 2 cv 1 ([((1 : Int), ([100, 0] : List UInt8))].flatMap mbC) → Mod [] w w' → R (.returned (.tuple #[ptV P1 cv, .int .i64 0])) w') :
    Calls Try.prog 64 #[] w R := by
  refine calls_go 4000 okT Try.func64 rfl (rs := [.cell 0 64, .tmp 1]) rfl Try.ntmps64 (args := []) ?_
  simp (maxSteps := 1000000) (disch := first | omega | (simp only [sizeAlloc, sizeDrew, sizeSet, sizePut] <;> omega) | fail) only [GS, TT_eq, TTl, Nat.reduceAdd, Nat.reduceMul, Nat.reduceSub, Nat.reduceDiv, Nat.reduceMod, Nat.reducePow, Nat.reduceEqDiff, ↓reduceIte, reduceCtorEq, Int.reduceToNat, Int.reduceAdd, Int.reduceSub, Int.reduceMul]
  generalize hW : (w.alloc (.cells #[.int .i64 0, .int .i64 0, .int .i64 0, .int .i64 0, .slice none 0 0, .int .i64 0, .string ⟨#[]⟩, .int .u8 0, .string ⟨#[]⟩, .int .i64 0] 64)).alloc (.cells #[.int .i64 1, .string ⟨#[100, 0]⟩] 59) = w1
  obtain ⟨hA, hB, hM0⟩ := two10 hW
  clear hW
  generalize hn : w.heap.size = n at *
  have hgeA : w.heap.size ≤ n := by omega
  have hz : n < w1.heap.size := (Array.getElem?_eq_some_iff.1 hA).1
  have hrd : Rd w1 2 (.slice (some ⟨n + 1, 0, none⟩) 1 1) 1 ([((1 : Int), ([100, 0] : List UInt8))].flatMap mbC) := rdBlock (xs := [.int .i64 1, .string ⟨#[100, 0]⟩]) hB rfl
  have hN := pNew_u PM 1 (.slice (some ⟨n + 1, 0, none⟩) 1 1) 1 [100, 1, 112] (by unfold maxLen; decide) w1 ⟨rfl, by decide, by unfold PM maxLen; decide, by unfold PM maxLen; decide, by unfold PM; decide, by unfold PM maxLen; decide, hrd⟩
  rw [alN] at hN
  simp only [resQ, resC] at hN
  unfold msgV msgC PM at hN
  unfold ptV ptC P1 at hN hR
  simp only at hN hR
  refine ⟨fok27, hN _ fun cv w3 hown hM3 => .inl ⟨_, rfl, hold_ops okT (rs := [.cell 0 64, .tmp 1]) rfl ?_⟩⟩
  have hA3 := hM3.get hA (by simp)
  have hM03 := hM0.trans hM3 (by simp)
  have oc := ownsRow_one hown
  have cA := fun o => cellOf (o := o) hA3
  have xA := fun o => frozenOf (o := o) hA3
  simp (maxSteps := 1000000) (disch := first | omega | (simp only [sizeAlloc, sizeDrew, sizeSet, sizePut] <;> omega) | fail) only [GS, TT_eq, TTl, Nat.reduceAdd, Nat.reduceMul, Nat.reduceSub, Nat.reduceDiv, Nat.reduceMod, Nat.reducePow, Nat.reduceEqDiff, ↓reduceIte, reduceCtorEq, Int.reduceToNat, Int.reduceAdd, Int.reduceSub, Int.reduceMul, cA, xA, oc, cellsL_one oc]
  refine load10 (st10 hA3) ?_
  refine hR cv _ ?_ (modSet10 hM03 (.inr hgeA))
  exact ownsRow_base (ownsRow_mod (S := [n]) hown (modSet10 (F := [n]) (p := n) (x0 := .int .i64 0) (x1 := .int .i64 1) (x2 := .int .i64 1) (x3 := .int .i64 3) (x4 := cv) (x5 := .int .i64 1) (x6 := .string ⟨#[100, 1, 112]⟩) (x7 := .int .u8 1) (x8 := .string ⟨#[]⟩) (x9 := .int .i64 (-1)) (Mod.refl [n] w3) (.inl (by simp))) (by simp; omega)) (by omega)
set_option maxRecDepth 20000 in
set_option maxHeartbeats 32000000 in
theorem alive23_cps (w : World) (R : Ending → World → Prop) (hR : ∀ w', Mod [] w w' → R (.returned (.bool true)) w') :
    Calls Try.prog 26 #[] w R := by
  refine calls_go 4000 okT Try.func26 rfl (rs := [.tmp 0]) rfl Try.ntmps26 (args := []) ?_
  have hM0 := Mod.refl [] w
  simp (maxSteps := 1000000) (disch := first | omega | (simp only [sizeAlloc, sizeDrew, sizeSet, sizePut] <;> omega) | fail) only [GS, TT_eq, TTl, Nat.reduceAdd, Nat.reduceMul, Nat.reduceSub, Nat.reduceDiv, Nat.reduceMod, Nat.reducePow, Nat.reduceEqDiff, ↓reduceIte, reduceCtorEq, Int.reduceToNat, Int.reduceAdd, Int.reduceSub, Int.reduceMul]
  refine ⟨fok64, asked_cps _ _ fun cv1 u0 ho1 hM_ => .inl ⟨_, rfl, hold_stop (s' := some 2) (hold_ops okT (rs := [.tmp 0]) rfl ?_)⟩⟩
  replace hM0 := hM0.trans hM_ (by simp)
  unfold ptV ptC P1
  simp only
  have oc := ownsRow_one ho1
  simp (maxSteps := 1000000) (disch := first | omega | (simp only [sizeAlloc, sizeDrew, sizeSet, sizePut] <;> omega) | fail) only [GS, TT_eq, TTl, Nat.reduceAdd, Nat.reduceMul, Nat.reduceSub, Nat.reduceDiv, Nat.reduceMod, Nat.reducePow, Nat.reduceEqDiff, ↓reduceIte, reduceCtorEq, Int.reduceToNat, Int.reduceAdd, Int.reduceSub, Int.reduceMul, oc, cellsL_one oc]
  generalize hW_ : (((((((((((u0.alloc (.cells #[.int .i64 0, .int .i64 0, .int .i64 0, .int .i64 0, .slice none 0 0, .int .i64 0, .string ⟨#[]⟩, .int .u8 0, .string ⟨#[]⟩, .int .i64 0] 64)).setCell ⟨u0.heap.size, 0, none⟩ (.int .i64 0)).setCell ⟨u0.heap.size, 1, none⟩ (.int .i64 1)).setCell ⟨u0.heap.size, 2, none⟩ (.int .i64 1)).setCell ⟨u0.heap.size, 3, none⟩ (.int .i64 3)).setCell ⟨u0.heap.size, 4, none⟩ (cv1)).setCell ⟨u0.heap.size, 5, none⟩ (.int .i64 1)).setCell ⟨u0.heap.size, 6, none⟩ (.string ⟨#[100, 1, 112]⟩)).setCell ⟨u0.heap.size, 7, none⟩ (.int .u8 1)).setCell ⟨u0.heap.size, 8, none⟩ (.string ⟨#[]⟩)).setCell ⟨u0.heap.size, 9, none⟩ (.int .i64 (-1))) = u1
  obtain ⟨b1, hM_⟩ : u1.heap[u0.heap.size]? = some (.cells #[.int .i64 0, .int .i64 1, .int .i64 1, .int .i64 3, cv1, .int .i64 1, .string ⟨#[100, 1, 112]⟩, .int .u8 1, .string ⟨#[]⟩, .int .i64 (-1)] 64 (0, 0)) ∧ Mod [] u0 u1 := by
    subst hW_
    exact ⟨st10 heapNew, modSet10 ((Mod.refl [] u0).alloc _) (.inr (Nat.le_refl _))⟩
  clear hW_
  replace hM0 := hM0.trans hM_ (by simp)
  replace ho1 := ownsRow_mod ho1 hM_ (by simp)
  generalize u0.heap.size = q1 at *
  refine hold_stop (s' := none) ?_
  refine hold_code okT (rs := [.tmp 0]) rfl ?_
  have c_b1 := fun o => cellOf (o := o) b1
  have hC_ := fun R => pLearn_u P1 cv1 true u1 (p_in rfl rfl (by decide) rfl (by decide) (Rd.own ho1)) R
  rw [alL1] at hC_
  simp only [resQ, resC] at hC_
  unfold ptV ptC P1 ptN at hC_
  simp only at hC_
  simp (maxSteps := 1000000) (disch := first | omega | (simp only [sizeAlloc, sizeDrew, sizeSet, sizePut] <;> omega) | fail) only [GS, TT_eq, TTl, Nat.reduceAdd, Nat.reduceMul, Nat.reduceSub, Nat.reduceDiv, Nat.reduceMod, Nat.reducePow, Nat.reduceEqDiff, ↓reduceIte, reduceCtorEq, Int.reduceToNat, Int.reduceAdd, Int.reduceSub, Int.reduceMul, c_b1]
  refine ⟨fok65, hC_ _ fun cvE u2 hoE hM_ => .inl ⟨_, rfl, hold_stop (s' := some 3) (hold_ops okT (rs := [.tmp 0]) rfl ?_)⟩⟩
  replace hM0 := hM0.trans hM_ (by simp)
  replace ho1 := ownsRow_mod ho1 hM_ (by simp)
  replace b1 := hM_.get b1 (by simp)
  clear hC_ c_b1
  have oc := ownsRow_one hoE
  simp (maxSteps := 1000000) (disch := first | omega | (simp only [sizeAlloc, sizeDrew, sizeSet, sizePut] <;> omega) | fail) only [GS, TT_eq, TTl, Nat.reduceAdd, Nat.reduceMul, Nat.reduceSub, Nat.reduceDiv, Nat.reduceMod, Nat.reducePow, Nat.reduceEqDiff, ↓reduceIte, reduceCtorEq, Int.reduceToNat, Int.reduceAdd, Int.reduceSub, Int.reduceMul, oc, cellsL_one oc]
  generalize hW_ : (((((((((((u2.alloc (.cells #[.int .i64 0, .int .i64 0, .int .i64 0, .int .i64 0, .slice none 0 0, .int .i64 0, .string ⟨#[]⟩, .int .u8 0, .string ⟨#[]⟩, .int .i64 0] 64)).setCell ⟨u2.heap.size, 0, none⟩ (.int .i64 0)).setCell ⟨u2.heap.size, 1, none⟩ (.int .i64 0)).setCell ⟨u2.heap.size, 2, none⟩ (.int .i64 0)).setCell ⟨u2.heap.size, 3, none⟩ (.int .i64 0)).setCell ⟨u2.heap.size, 4, none⟩ (cvE)).setCell ⟨u2.heap.size, 5, none⟩ (.int .i64 0)).setCell ⟨u2.heap.size, 6, none⟩ (.string ⟨#[]⟩)).setCell ⟨u2.heap.size, 7, none⟩ (.int .u8 0)).setCell ⟨u2.heap.size, 8, none⟩ (.string ⟨#[]⟩)).setCell ⟨u2.heap.size, 9, none⟩ (.int .i64 0)) = u3
  obtain ⟨b3, hM_⟩ : u3.heap[u2.heap.size]? = some (.cells #[.int .i64 0, .int .i64 0, .int .i64 0, .int .i64 0, cvE, .int .i64 0, .string ⟨#[]⟩, .int .u8 0, .string ⟨#[]⟩, .int .i64 0] 64 (0, 0)) ∧ Mod [] u2 u3 := by
    subst hW_
    exact ⟨st10 heapNew, modSet10 ((Mod.refl [] u2).alloc _) (.inr (Nat.le_refl _))⟩
  clear hW_
  replace hM0 := hM0.trans hM_ (by simp)
  replace ho1 := ownsRow_mod ho1 hM_ (by simp)
  replace b1 := hM_.get b1 (by simp)
  replace hoE := ownsRow_mod hoE hM_ (by simp)
  generalize u2.heap.size = q3 at *
  refine hold_stop (s' := none) ?_
  refine hold_code okT (rs := [.tmp 0]) rfl ?_
  clear b3 hoE
  have c_b1 := fun o => cellOf (o := o) b1
  have hC_ := fun R => pLearn_u P1 cv1 false u3 (p_in rfl rfl (by decide) rfl (by decide) (Rd.own ho1)) R
  rw [alL0] at hC_
  simp only [resQ, resC] at hC_
  unfold ptV ptC P1 P5 at hC_
  simp only at hC_
  simp (maxSteps := 1000000) (disch := first | omega | (simp only [sizeAlloc, sizeDrew, sizeSet, sizePut] <;> omega) | fail) only [GS, TT_eq, TTl, Nat.reduceAdd, Nat.reduceMul, Nat.reduceSub, Nat.reduceDiv, Nat.reduceMod, Nat.reducePow, Nat.reduceEqDiff, ↓reduceIte, reduceCtorEq, Int.reduceToNat, Int.reduceAdd, Int.reduceSub, Int.reduceMul, c_b1]
  refine ⟨fok65, hC_ _ fun cv5 u4 ho5 hM_ => .inl ⟨_, rfl, hold_stop (s' := some 4) (hold_ops okT (rs := [.tmp 0]) rfl ?_)⟩⟩
  replace hM0 := hM0.trans hM_ (by simp)
  replace ho1 := ownsRow_mod ho1 hM_ (by simp)
  replace b1 := hM_.get b1 (by simp)
  clear hC_ c_b1
  have oc := ownsRow_one ho5
  simp (maxSteps := 1000000) (disch := first | omega | (simp only [sizeAlloc, sizeDrew, sizeSet, sizePut] <;> omega) | fail) only [GS, TT_eq, TTl, Nat.reduceAdd, Nat.reduceMul, Nat.reduceSub, Nat.reduceDiv, Nat.reduceMod, Nat.reducePow, Nat.reduceEqDiff, ↓reduceIte, reduceCtorEq, Int.reduceToNat, Int.reduceAdd, Int.reduceSub, Int.reduceMul, oc, cellsL_one oc]
  generalize hW_ : (((((((((((u4.alloc (.cells #[.int .i64 0, .int .i64 0, .int .i64 0, .int .i64 0, .slice none 0 0, .int .i64 0, .string ⟨#[]⟩, .int .u8 0, .string ⟨#[]⟩, .int .i64 0] 64)).setCell ⟨u4.heap.size, 0, none⟩ (.int .i64 0)).setCell ⟨u4.heap.size, 1, none⟩ (.int .i64 1)).setCell ⟨u4.heap.size, 2, none⟩ (.int .i64 1)).setCell ⟨u4.heap.size, 3, none⟩ (.int .i64 3)).setCell ⟨u4.heap.size, 4, none⟩ (cv5)).setCell ⟨u4.heap.size, 5, none⟩ (.int .i64 1)).setCell ⟨u4.heap.size, 6, none⟩ (.string ⟨#[100, 1, 112]⟩)).setCell ⟨u4.heap.size, 7, none⟩ (.int .u8 5)).setCell ⟨u4.heap.size, 8, none⟩ (.string ⟨#[]⟩)).setCell ⟨u4.heap.size, 9, none⟩ (.int .i64 (-1))) = u5
  obtain ⟨b5, hM_⟩ : u5.heap[u4.heap.size]? = some (.cells #[.int .i64 0, .int .i64 1, .int .i64 1, .int .i64 3, cv5, .int .i64 1, .string ⟨#[100, 1, 112]⟩, .int .u8 5, .string ⟨#[]⟩, .int .i64 (-1)] 64 (0, 0)) ∧ Mod [] u4 u5 := by
    subst hW_
    exact ⟨st10 heapNew, modSet10 ((Mod.refl [] u4).alloc _) (.inr (Nat.le_refl _))⟩
  clear hW_
  replace hM0 := hM0.trans hM_ (by simp)
  replace ho1 := ownsRow_mod ho1 hM_ (by simp)
  replace b1 := hM_.get b1 (by simp)
  replace ho5 := ownsRow_mod ho5 hM_ (by simp)
  generalize u4.heap.size = q5 at *
  refine hold_stop (s' := none) ?_
  refine hold_code okT (rs := [.tmp 0]) rfl ?_
  have c_b5 := fun o => cellOf (o := o) b5
  have hC_ := fun R => pWhat_cps P5 cv5 u5 (p_in rfl rfl (by decide) rfl (by decide) (Rd.own ho5)) R
  rw [alW5] at hC_
  unfold msgV msgC at hC_
  unfold ptV ptC P5 at hC_
  simp only at hC_
  simp (maxSteps := 1000000) (disch := first | omega | (simp only [sizeAlloc, sizeDrew, sizeSet, sizePut] <;> omega) | fail) only [GS, TT_eq, TTl, Nat.reduceAdd, Nat.reduceMul, Nat.reduceSub, Nat.reduceDiv, Nat.reduceMod, Nat.reducePow, Nat.reduceEqDiff, ↓reduceIte, reduceCtorEq, Int.reduceToNat, Int.reduceAdd, Int.reduceSub, Int.reduceMul, c_b5]
  refine ⟨fok33, hC_ _ fun u6 hM_ => .inl ⟨_, rfl, hold_stop (s' := some 5) (hold_ops okT (rs := [.tmp 0]) rfl ?_)⟩⟩
  replace hM0 := hM0.trans hM_ (by simp)
  replace ho1 := ownsRow_mod ho1 hM_ (by simp)
  replace b1 := hM_.get b1 (by simp)
  replace ho5 := ownsRow_mod ho5 hM_ (by simp)
  replace b5 := hM_.get b5 (by simp)
  clear hC_ c_b5
  simp (maxSteps := 1000000) (disch := first | omega | (simp only [sizeAlloc, sizeDrew, sizeSet, sizePut] <;> omega) | fail) only [GS, TT_eq, TTl, Nat.reduceAdd, Nat.reduceMul, Nat.reduceSub, Nat.reduceDiv, Nat.reduceMod, Nat.reducePow, Nat.reduceEqDiff, ↓reduceIte, reduceCtorEq, Int.reduceToNat, Int.reduceAdd, Int.reduceSub, Int.reduceMul]
  generalize hW_ : ((((((((((u6.alloc (.cells #[.int .u8 0, .int .i64 0, .int .i64 0, .int .i64 0, .int .i64 0, .slice none 0 0, .string ⟨#[]⟩, .bool false, .string ⟨#[]⟩] 42)).setCell ⟨u6.heap.size, 0, none⟩ (.int .u8 4)).setCell ⟨u6.heap.size, 1, none⟩ (.int .i64 0)).setCell ⟨u6.heap.size, 2, none⟩ (.int .i64 1)).setCell ⟨u6.heap.size, 3, none⟩ (.int .i64 1)).setCell ⟨u6.heap.size, 4, none⟩ (.int .i64 0)).setCell ⟨u6.heap.size, 5, none⟩ (.slice none 0 0)).setCell ⟨u6.heap.size, 6, none⟩ (.string ⟨#[]⟩)).setCell ⟨u6.heap.size, 7, none⟩ (.bool false)).setCell ⟨u6.heap.size, 8, none⟩ (.string ⟨#[]⟩)) = u7
  obtain ⟨b7, hM_⟩ : u7.heap[u6.heap.size]? = some (.cells #[.int .u8 4, .int .i64 0, .int .i64 1, .int .i64 1, .int .i64 0, .slice none 0 0, .string ⟨#[]⟩, .bool false, .string ⟨#[]⟩] 42 (0, 0)) ∧ Mod [] u6 u7 := by
    subst hW_
    exact ⟨st9p heapNew, modSet9p ((Mod.refl [] u6).alloc _) (.inr (Nat.le_refl _))⟩
  clear hW_
  replace hM0 := hM0.trans hM_ (by simp)
  replace ho1 := ownsRow_mod ho1 hM_ (by simp)
  replace b1 := hM_.get b1 (by simp)
  replace ho5 := ownsRow_mod ho5 hM_ (by simp)
  replace b5 := hM_.get b5 (by simp)
  generalize u6.heap.size = q7 at *
  refine hold_stop (s' := none) ?_
  refine hold_code okT (rs := [.tmp 0]) rfl ?_
  have c_b1 := fun o => cellOf (o := o) b1
  have hC_ := fun R => pVote_u P1 cv1 true [100, 0] (by unfold maxLen; decide) u7 (p_in rfl rfl (by decide) rfl (by decide) (Rd.own ho1)) R
  rw [alV] at hC_
  simp only [resQ, resC] at hC_
  unfold ptV ptC P1 P2 at hC_
  simp only at hC_
  simp (maxSteps := 1000000) (disch := first | omega | (simp only [sizeAlloc, sizeDrew, sizeSet, sizePut] <;> omega) | fail) only [GS, TT_eq, TTl, Nat.reduceAdd, Nat.reduceMul, Nat.reduceSub, Nat.reduceDiv, Nat.reduceMod, Nat.reducePow, Nat.reduceEqDiff, ↓reduceIte, reduceCtorEq, Int.reduceToNat, Int.reduceAdd, Int.reduceSub, Int.reduceMul, c_b1]
  refine ⟨fok66, hC_ _ fun cv2 u8 ho2 hM_ => .inl ⟨_, rfl, hold_stop (s' := some 6) (hold_ops okT (rs := [.tmp 0]) rfl ?_)⟩⟩
  replace hM0 := hM0.trans hM_ (by simp)
  replace ho1 := ownsRow_mod ho1 hM_ (by simp)
  replace b1 := hM_.get b1 (by simp)
  replace ho5 := ownsRow_mod ho5 hM_ (by simp)
  replace b5 := hM_.get b5 (by simp)
  replace b7 := hM_.get b7 (by simp)
  clear hC_ c_b1
  have oc := ownsRow_one ho2
  simp (maxSteps := 1000000) (disch := first | omega | (simp only [sizeAlloc, sizeDrew, sizeSet, sizePut] <;> omega) | fail) only [GS, TT_eq, TTl, Nat.reduceAdd, Nat.reduceMul, Nat.reduceSub, Nat.reduceDiv, Nat.reduceMod, Nat.reducePow, Nat.reduceEqDiff, ↓reduceIte, reduceCtorEq, Int.reduceToNat, Int.reduceAdd, Int.reduceSub, Int.reduceMul, oc, cellsL_one oc]
  generalize hW_ : (((((((((((u8.alloc (.cells #[.int .i64 0, .int .i64 0, .int .i64 0, .int .i64 0, .slice none 0 0, .int .i64 0, .string ⟨#[]⟩, .int .u8 0, .string ⟨#[]⟩, .int .i64 0] 64)).setCell ⟨u8.heap.size, 0, none⟩ (.int .i64 0)).setCell ⟨u8.heap.size, 1, none⟩ (.int .i64 1)).setCell ⟨u8.heap.size, 2, none⟩ (.int .i64 1)).setCell ⟨u8.heap.size, 3, none⟩ (.int .i64 3)).setCell ⟨u8.heap.size, 4, none⟩ (cv2)).setCell ⟨u8.heap.size, 5, none⟩ (.int .i64 1)).setCell ⟨u8.heap.size, 6, none⟩ (.string ⟨#[100, 1, 112]⟩)).setCell ⟨u8.heap.size, 7, none⟩ (.int .u8 2)).setCell ⟨u8.heap.size, 8, none⟩ (.string ⟨#[100, 0]⟩)).setCell ⟨u8.heap.size, 9, none⟩ (.int .i64 (-1))) = u9
  obtain ⟨b9, hM_⟩ : u9.heap[u8.heap.size]? = some (.cells #[.int .i64 0, .int .i64 1, .int .i64 1, .int .i64 3, cv2, .int .i64 1, .string ⟨#[100, 1, 112]⟩, .int .u8 2, .string ⟨#[100, 0]⟩, .int .i64 (-1)] 64 (0, 0)) ∧ Mod [] u8 u9 := by
    subst hW_
    exact ⟨st10 heapNew, modSet10 ((Mod.refl [] u8).alloc _) (.inr (Nat.le_refl _))⟩
  clear hW_
  replace hM0 := hM0.trans hM_ (by simp)
  replace ho1 := ownsRow_mod ho1 hM_ (by simp)
  replace b1 := hM_.get b1 (by simp)
  replace ho5 := ownsRow_mod ho5 hM_ (by simp)
  replace b5 := hM_.get b5 (by simp)
  replace b7 := hM_.get b7 (by simp)
  replace ho2 := ownsRow_mod ho2 hM_ (by simp)
  generalize u8.heap.size = q9 at *
  refine hold_stop (s' := none) ?_
  refine hold_code okT (rs := [.tmp 0]) rfl ?_
  have c_b9 := fun o => cellOf (o := o) b9
  have hC_ := fun R => pWhat_cps P2 cv2 u9 (p_in rfl rfl (by decide) rfl (by decide) (Rd.own ho2)) R
  rw [alW2] at hC_
  unfold msgV msgC at hC_
  unfold ptV ptC P2 at hC_
  simp only at hC_
  simp (maxSteps := 1000000) (disch := first | omega | (simp only [sizeAlloc, sizeDrew, sizeSet, sizePut] <;> omega) | fail) only [GS, TT_eq, TTl, Nat.reduceAdd, Nat.reduceMul, Nat.reduceSub, Nat.reduceDiv, Nat.reduceMod, Nat.reducePow, Nat.reduceEqDiff, ↓reduceIte, reduceCtorEq, Int.reduceToNat, Int.reduceAdd, Int.reduceSub, Int.reduceMul, c_b9]
  refine ⟨fok33, hC_ _ fun u10 hM_ => .inl ⟨_, rfl, hold_stop (s' := some 7) (hold_ops okT (rs := [.tmp 0]) rfl ?_)⟩⟩
  replace hM0 := hM0.trans hM_ (by simp)
  replace ho1 := ownsRow_mod ho1 hM_ (by simp)
  replace b1 := hM_.get b1 (by simp)
  replace ho5 := ownsRow_mod ho5 hM_ (by simp)
  replace b5 := hM_.get b5 (by simp)
  replace b7 := hM_.get b7 (by simp)
  replace ho2 := ownsRow_mod ho2 hM_ (by simp)
  replace b9 := hM_.get b9 (by simp)
  clear hC_ c_b9
  simp (maxSteps := 1000000) (disch := first | omega | (simp only [sizeAlloc, sizeDrew, sizeSet, sizePut] <;> omega) | fail) only [GS, TT_eq, TTl, Nat.reduceAdd, Nat.reduceMul, Nat.reduceSub, Nat.reduceDiv, Nat.reduceMod, Nat.reducePow, Nat.reduceEqDiff, ↓reduceIte, reduceCtorEq, Int.reduceToNat, Int.reduceAdd, Int.reduceSub, Int.reduceMul]
  generalize hW_ : ((((((((((u10.alloc (.cells #[.int .u8 0, .int .i64 0, .int .i64 0, .int .i64 0, .int .i64 0, .slice none 0 0, .string ⟨#[]⟩, .bool false, .string ⟨#[]⟩] 42)).setCell ⟨u10.heap.size, 0, none⟩ (.int .u8 2)).setCell ⟨u10.heap.size, 1, none⟩ (.int .i64 0)).setCell ⟨u10.heap.size, 2, none⟩ (.int .i64 1)).setCell ⟨u10.heap.size, 3, none⟩ (.int .i64 1)).setCell ⟨u10.heap.size, 4, none⟩ (.int .i64 0)).setCell ⟨u10.heap.size, 5, none⟩ (.slice none 0 0)).setCell ⟨u10.heap.size, 6, none⟩ (.string ⟨#[]⟩)).setCell ⟨u10.heap.size, 7, none⟩ (.bool true)).setCell ⟨u10.heap.size, 8, none⟩ (.string ⟨#[100, 0]⟩)) = u11
  obtain ⟨b11, hM_⟩ : u11.heap[u10.heap.size]? = some (.cells #[.int .u8 2, .int .i64 0, .int .i64 1, .int .i64 1, .int .i64 0, .slice none 0 0, .string ⟨#[]⟩, .bool true, .string ⟨#[100, 0]⟩] 42 (0, 0)) ∧ Mod [] u10 u11 := by
    subst hW_
    exact ⟨st9p heapNew, modSet9p ((Mod.refl [] u10).alloc _) (.inr (Nat.le_refl _))⟩
  clear hW_
  replace hM0 := hM0.trans hM_ (by simp)
  replace ho1 := ownsRow_mod ho1 hM_ (by simp)
  replace b1 := hM_.get b1 (by simp)
  replace ho5 := ownsRow_mod ho5 hM_ (by simp)
  replace b5 := hM_.get b5 (by simp)
  replace b7 := hM_.get b7 (by simp)
  replace ho2 := ownsRow_mod ho2 hM_ (by simp)
  replace b9 := hM_.get b9 (by simp)
  generalize u10.heap.size = q11 at *
  refine hold_stop (s' := none) ?_
  refine hold_code okT (rs := [.tmp 0]) rfl ?_
  have c_b9 := fun o => cellOf (o := o) b9
  have hC_ := fun R => pLearn_u P2 cv2 true u11 (p_in rfl rfl (by decide) rfl (by decide) (Rd.own ho2)) R
  rw [alL2] at hC_
  simp only [resQ, resC] at hC_
  unfold ptV ptC P2 P4 at hC_
  simp only at hC_
  simp (maxSteps := 1000000) (disch := first | omega | (simp only [sizeAlloc, sizeDrew, sizeSet, sizePut] <;> omega) | fail) only [GS, TT_eq, TTl, Nat.reduceAdd, Nat.reduceMul, Nat.reduceSub, Nat.reduceDiv, Nat.reduceMod, Nat.reducePow, Nat.reduceEqDiff, ↓reduceIte, reduceCtorEq, Int.reduceToNat, Int.reduceAdd, Int.reduceSub, Int.reduceMul, c_b9]
  refine ⟨fok65, hC_ _ fun cv4 u12 ho4 hM_ => .inl ⟨_, rfl, hold_stop (s' := some 8) (hold_ops okT (rs := [.tmp 0]) rfl ?_)⟩⟩
  replace hM0 := hM0.trans hM_ (by simp)
  replace ho1 := ownsRow_mod ho1 hM_ (by simp)
  replace b1 := hM_.get b1 (by simp)
  replace ho5 := ownsRow_mod ho5 hM_ (by simp)
  replace b5 := hM_.get b5 (by simp)
  replace b7 := hM_.get b7 (by simp)
  replace ho2 := ownsRow_mod ho2 hM_ (by simp)
  replace b9 := hM_.get b9 (by simp)
  replace b11 := hM_.get b11 (by simp)
  clear hC_ c_b9
  have oc := ownsRow_one ho4
  simp (maxSteps := 1000000) (disch := first | omega | (simp only [sizeAlloc, sizeDrew, sizeSet, sizePut] <;> omega) | fail) only [GS, TT_eq, TTl, Nat.reduceAdd, Nat.reduceMul, Nat.reduceSub, Nat.reduceDiv, Nat.reduceMod, Nat.reducePow, Nat.reduceEqDiff, ↓reduceIte, reduceCtorEq, Int.reduceToNat, Int.reduceAdd, Int.reduceSub, Int.reduceMul, oc, cellsL_one oc]
  generalize hW_ : (((((((((((u12.alloc (.cells #[.int .i64 0, .int .i64 0, .int .i64 0, .int .i64 0, .slice none 0 0, .int .i64 0, .string ⟨#[]⟩, .int .u8 0, .string ⟨#[]⟩, .int .i64 0] 64)).setCell ⟨u12.heap.size, 0, none⟩ (.int .i64 0)).setCell ⟨u12.heap.size, 1, none⟩ (.int .i64 1)).setCell ⟨u12.heap.size, 2, none⟩ (.int .i64 1)).setCell ⟨u12.heap.size, 3, none⟩ (.int .i64 3)).setCell ⟨u12.heap.size, 4, none⟩ (cv4)).setCell ⟨u12.heap.size, 5, none⟩ (.int .i64 1)).setCell ⟨u12.heap.size, 6, none⟩ (.string ⟨#[100, 1, 112]⟩)).setCell ⟨u12.heap.size, 7, none⟩ (.int .u8 4)).setCell ⟨u12.heap.size, 8, none⟩ (.string ⟨#[100, 0]⟩)).setCell ⟨u12.heap.size, 9, none⟩ (.int .i64 (-1))) = u13
  obtain ⟨b13, hM_⟩ : u13.heap[u12.heap.size]? = some (.cells #[.int .i64 0, .int .i64 1, .int .i64 1, .int .i64 3, cv4, .int .i64 1, .string ⟨#[100, 1, 112]⟩, .int .u8 4, .string ⟨#[100, 0]⟩, .int .i64 (-1)] 64 (0, 0)) ∧ Mod [] u12 u13 := by
    subst hW_
    exact ⟨st10 heapNew, modSet10 ((Mod.refl [] u12).alloc _) (.inr (Nat.le_refl _))⟩
  clear hW_
  replace hM0 := hM0.trans hM_ (by simp)
  replace ho1 := ownsRow_mod ho1 hM_ (by simp)
  replace b1 := hM_.get b1 (by simp)
  replace ho5 := ownsRow_mod ho5 hM_ (by simp)
  replace b5 := hM_.get b5 (by simp)
  replace b7 := hM_.get b7 (by simp)
  replace ho2 := ownsRow_mod ho2 hM_ (by simp)
  replace b9 := hM_.get b9 (by simp)
  replace b11 := hM_.get b11 (by simp)
  replace ho4 := ownsRow_mod ho4 hM_ (by simp)
  generalize u12.heap.size = q13 at *
  refine hold_stop (s' := none) ?_
  refine hold_code okT (rs := [.tmp 0]) rfl ?_
  have c_b13 := fun o => cellOf (o := o) b13
  have hC_ := fun R => pLearn_u P4 cv4 false u13 (p_in rfl rfl (by decide) rfl (by decide) (Rd.own ho4)) R
  rw [alL4] at hC_
  simp only [resQ, resC] at hC_
  unfold ptV ptC P4 ptN at hC_
  simp only at hC_
  simp (maxSteps := 1000000) (disch := first | omega | (simp only [sizeAlloc, sizeDrew, sizeSet, sizePut] <;> omega) | fail) only [GS, TT_eq, TTl, Nat.reduceAdd, Nat.reduceMul, Nat.reduceSub, Nat.reduceDiv, Nat.reduceMod, Nat.reducePow, Nat.reduceEqDiff, ↓reduceIte, reduceCtorEq, Int.reduceToNat, Int.reduceAdd, Int.reduceSub, Int.reduceMul, c_b13]
  refine ⟨fok65, hC_ _ fun cvE u14 hoE hM_ => .inl ⟨_, rfl, hold_stop (s' := some 9) (hold_ops okT (rs := [.tmp 0]) rfl ?_)⟩⟩
  replace hM0 := hM0.trans hM_ (by simp)
  replace ho1 := ownsRow_mod ho1 hM_ (by simp)
  replace b1 := hM_.get b1 (by simp)
  replace ho5 := ownsRow_mod ho5 hM_ (by simp)
  replace b5 := hM_.get b5 (by simp)
  replace b7 := hM_.get b7 (by simp)
  replace ho2 := ownsRow_mod ho2 hM_ (by simp)
  replace b9 := hM_.get b9 (by simp)
  replace b11 := hM_.get b11 (by simp)
  replace ho4 := ownsRow_mod ho4 hM_ (by simp)
  replace b13 := hM_.get b13 (by simp)
  clear hC_ c_b13
  have oc := ownsRow_one hoE
  simp (maxSteps := 1000000) (disch := first | omega | (simp only [sizeAlloc, sizeDrew, sizeSet, sizePut] <;> omega) | fail) only [GS, TT_eq, TTl, Nat.reduceAdd, Nat.reduceMul, Nat.reduceSub, Nat.reduceDiv, Nat.reduceMod, Nat.reducePow, Nat.reduceEqDiff, ↓reduceIte, reduceCtorEq, Int.reduceToNat, Int.reduceAdd, Int.reduceSub, Int.reduceMul, oc, cellsL_one oc]
  generalize hW_ : (((((((((((u14.alloc (.cells #[.int .i64 0, .int .i64 0, .int .i64 0, .int .i64 0, .slice none 0 0, .int .i64 0, .string ⟨#[]⟩, .int .u8 0, .string ⟨#[]⟩, .int .i64 0] 64)).setCell ⟨u14.heap.size, 0, none⟩ (.int .i64 0)).setCell ⟨u14.heap.size, 1, none⟩ (.int .i64 0)).setCell ⟨u14.heap.size, 2, none⟩ (.int .i64 0)).setCell ⟨u14.heap.size, 3, none⟩ (.int .i64 0)).setCell ⟨u14.heap.size, 4, none⟩ (cvE)).setCell ⟨u14.heap.size, 5, none⟩ (.int .i64 0)).setCell ⟨u14.heap.size, 6, none⟩ (.string ⟨#[]⟩)).setCell ⟨u14.heap.size, 7, none⟩ (.int .u8 0)).setCell ⟨u14.heap.size, 8, none⟩ (.string ⟨#[]⟩)).setCell ⟨u14.heap.size, 9, none⟩ (.int .i64 0)) = u15
  obtain ⟨b15, hM_⟩ : u15.heap[u14.heap.size]? = some (.cells #[.int .i64 0, .int .i64 0, .int .i64 0, .int .i64 0, cvE, .int .i64 0, .string ⟨#[]⟩, .int .u8 0, .string ⟨#[]⟩, .int .i64 0] 64 (0, 0)) ∧ Mod [] u14 u15 := by
    subst hW_
    exact ⟨st10 heapNew, modSet10 ((Mod.refl [] u14).alloc _) (.inr (Nat.le_refl _))⟩
  clear hW_
  replace hM0 := hM0.trans hM_ (by simp)
  replace ho1 := ownsRow_mod ho1 hM_ (by simp)
  replace b1 := hM_.get b1 (by simp)
  replace ho5 := ownsRow_mod ho5 hM_ (by simp)
  replace b5 := hM_.get b5 (by simp)
  replace b7 := hM_.get b7 (by simp)
  replace ho2 := ownsRow_mod ho2 hM_ (by simp)
  replace b9 := hM_.get b9 (by simp)
  replace b11 := hM_.get b11 (by simp)
  replace ho4 := ownsRow_mod ho4 hM_ (by simp)
  replace b13 := hM_.get b13 (by simp)
  replace hoE := ownsRow_mod hoE hM_ (by simp)
  generalize u14.heap.size = q15 at *
  refine hold_stop (s' := none) ?_
  refine hold_code okT (rs := [.tmp 0]) rfl ?_
  have c_b5 := fun o => cellOf (o := o) b5
  have c_b7 := fun o => cellOf (o := o) b7
  have c_b11 := fun o => cellOf (o := o) b11
  have c_b13 := fun o => cellOf (o := o) b13
  simp (maxSteps := 1000000) (disch := first | omega | (simp only [sizeAlloc, sizeDrew, sizeSet, sizePut] <;> omega) | fail) only [GS, TT_eq, TTl, Nat.reduceAdd, Nat.reduceMul, Nat.reduceSub, Nat.reduceDiv, Nat.reduceMod, Nat.reducePow, Nat.reduceEqDiff, ↓reduceIte, reduceCtorEq, Int.reduceToNat, Int.reduceAdd, Int.reduceSub, Int.reduceMul, c_b5, c_b7, c_b11, c_b13, eq_self]
  exact hR _ hM0
end Go.Proofs.Ytpcilobbohokcaa
