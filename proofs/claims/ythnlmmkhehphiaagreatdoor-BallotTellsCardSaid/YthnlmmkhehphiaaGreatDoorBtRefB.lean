/-
  The reference's organisations and transactions (walks).
-/
import Derived.Test.YthnlmmkhehphiaaGreatDoorBtRefA
import Derived.Test.YthnlmmkhehphiaaGreatDoorBtW2
set_option linter.unusedSimpArgs false
set_option linter.unusedVariables false
set_option maxRecDepth 20000
namespace Go.Proofs.YthnlmmkhehphiaaGreatDoor
open Go Go.Wk Go.RowKit
attribute [local irreducible] go Hold
open Go.Lib
theorem rOrg_cps (k : Int) (w : World) (R : Ending → World → Prop) (hR : R (.returned (.bool (orgB k))) w) : Calls Tryz.prog 76 #[.int .i64 k] w R := by
  refine calls_go 4000 okT Tryz.func76 rfl (rs := [.tmp 2]) rfl Tryz.ntmps76 (args := [.int .i64 k]) ?_
  unfold orgB at hR
  by_cases h0 : 0 ≤ k
  · by_cases h8 : k < 8
    · rw [decide_eq_true ⟨h0, h8⟩] at hR
      simp (maxSteps := 1000000) (disch := first | omega | (simp only [sizeAlloc, sizeDrew, sizeSet, sizePut] <;> omega) | fail) only [GS, TT_eq, TTl, Nat.reduceAdd, Nat.reduceMul, Nat.reduceSub, Nat.reduceDiv, Nat.reduceMod, Nat.reducePow, Nat.reduceEqDiff, ↓reduceIte, reduceCtorEq, Int.reduceToNat, Int.reduceAdd, Int.reduceSub, Int.reduceMul, h0, h8]
      exact hR
    · rw [decide_eq_false (fun h => h8 h.2)] at hR
      simp (maxSteps := 1000000) (disch := first | omega | (simp only [sizeAlloc, sizeDrew, sizeSet, sizePut] <;> omega) | fail) only [GS, TT_eq, TTl, Nat.reduceAdd, Nat.reduceMul, Nat.reduceSub, Nat.reduceDiv, Nat.reduceMod, Nat.reducePow, Nat.reduceEqDiff, ↓reduceIte, reduceCtorEq, Int.reduceToNat, Int.reduceAdd, Int.reduceSub, Int.reduceMul, h0, h8]
      exact hR
  · rw [decide_eq_false (fun h => h0 h.1)] at hR
    simp (maxSteps := 1000000) (disch := first | omega | (simp only [sizeAlloc, sizeDrew, sizeSet, sizePut] <;> omega) | fail) only [GS, TT_eq, TTl, Nat.reduceAdd, Nat.reduceMul, Nat.reduceSub, Nat.reduceDiv, Nat.reduceMod, Nat.reducePow, Nat.reduceEqDiff, ↓reduceIte, reduceCtorEq, Int.reduceToNat, Int.reduceAdd, Int.reduceSub, Int.reduceMul, h0]
    exact hR
set_option maxHeartbeats 2000000 in
theorem rMayTxn_cps (x : Tx) (w : World) (R : Ending → World → Prop) (hR : ∀ w', Mod [] w w' → R (.returned (.bool (txB x))) w') : Calls Tryz.prog 75 #[txV x] w R := by
  obtain ⟨a, b, c⟩ := x
  unfold txB at hR
  unfold txV
  simp only at hR ⊢
  refine calls_go 4000 okT Tryz.func75 rfl (rs := [.tmp 2]) rfl Tryz.ntmps75 (args := [.agg #[.int .i64 a, .int .i64 b, .int .i64 c]]) ?_
  simp (maxSteps := 1000000) (disch := first | omega | (simp only [sizeAlloc, sizeDrew, sizeSet, sizePut] <;> omega) | fail) only [GS, TT_eq, TTl, Nat.reduceAdd, Nat.reduceMul, Nat.reduceSub, Nat.reduceDiv, Nat.reduceMod, Nat.reducePow, Nat.reduceEqDiff, ↓reduceIte, reduceCtorEq, Int.reduceToNat, Int.reduceAdd, Int.reduceSub, Int.reduceMul]
  have hM := (Mod.refl [] w).alloc (.cells #[.int .i64 a, .int .i64 b, .int .i64 c] 23)
  have hb := heapNew (w := w) (o := .cells #[.int .i64 a, .int .i64 b, .int .i64 c] 23)
  generalize w.alloc (.cells #[.int .i64 a, .int .i64 b, .int .i64 c] 23) = w1 at hM hb ⊢
  generalize w.heap.size = n at *
  have hR := hR _ hM
  have c1 := fun o => cellOf (o := o) hb
  refine ⟨fok76, rOrg_cps a _ _ (.inl ⟨_, rfl, hold_ops okT (rs := [.tmp 2]) rfl ?_⟩)⟩
  unfold orgB
  by_cases h0 : 0 ≤ a ∧ a < 8
  rotate_left
  · rw [decide_eq_false (fun h => h0 ⟨h.1, h.2.1⟩)] at hR
    rw [decide_eq_false h0]
    simp (maxSteps := 1000000) (disch := first | omega | (simp only [sizeAlloc, sizeDrew, sizeSet, sizePut] <;> omega) | fail) only [GS, TT_eq, TTl, Nat.reduceAdd, Nat.reduceMul, Nat.reduceSub, Nat.reduceDiv, Nat.reduceMod, Nat.reducePow, Nat.reduceEqDiff, ↓reduceIte, reduceCtorEq, Int.reduceToNat, Int.reduceAdd, Int.reduceSub, Int.reduceMul, c1]
    exact hR
  rw [decide_eq_true h0]
  by_cases h1 : 1 ≤ b
  rotate_left
  · rw [decide_eq_false (fun h => h1 h.2.2.1)] at hR
    simp (maxSteps := 1000000) (disch := first | omega | (simp only [sizeAlloc, sizeDrew, sizeSet, sizePut] <;> omega) | fail) only [GS, TT_eq, TTl, Nat.reduceAdd, Nat.reduceMul, Nat.reduceSub, Nat.reduceDiv, Nat.reduceMod, Nat.reducePow, Nat.reduceEqDiff, ↓reduceIte, reduceCtorEq, Int.reduceToNat, Int.reduceAdd, Int.reduceSub, Int.reduceMul, c1, h1]
    exact hR
  by_cases h2 : b ≤ 255
  rotate_left
  · rw [decide_eq_false (fun h => h2 h.2.2.2.1)] at hR
    simp (maxSteps := 1000000) (disch := first | omega | (simp only [sizeAlloc, sizeDrew, sizeSet, sizePut] <;> omega) | fail) only [GS, TT_eq, TTl, Nat.reduceAdd, Nat.reduceMul, Nat.reduceSub, Nat.reduceDiv, Nat.reduceMod, Nat.reducePow, Nat.reduceEqDiff, ↓reduceIte, reduceCtorEq, Int.reduceToNat, Int.reduceAdd, Int.reduceSub, Int.reduceMul, c1, h1, h2]
    exact hR
  by_cases h3 : 1 ≤ c
  rotate_left
  · rw [decide_eq_false (fun h => h3 h.2.2.2.2.1)] at hR
    simp (maxSteps := 1000000) (disch := first | omega | (simp only [sizeAlloc, sizeDrew, sizeSet, sizePut] <;> omega) | fail) only [GS, TT_eq, TTl, Nat.reduceAdd, Nat.reduceMul, Nat.reduceSub, Nat.reduceDiv, Nat.reduceMod, Nat.reducePow, Nat.reduceEqDiff, ↓reduceIte, reduceCtorEq, Int.reduceToNat, Int.reduceAdd, Int.reduceSub, Int.reduceMul, c1, h1, h2, h3]
    exact hR
  by_cases h4 : c ≤ 65535
  rotate_left
  · rw [decide_eq_false (fun h => h4 h.2.2.2.2.2)] at hR
    simp (maxSteps := 1000000) (disch := first | omega | (simp only [sizeAlloc, sizeDrew, sizeSet, sizePut] <;> omega) | fail) only [GS, TT_eq, TTl, Nat.reduceAdd, Nat.reduceMul, Nat.reduceSub, Nat.reduceDiv, Nat.reduceMod, Nat.reducePow, Nat.reduceEqDiff, ↓reduceIte, reduceCtorEq, Int.reduceToNat, Int.reduceAdd, Int.reduceSub, Int.reduceMul, c1, h1, h2, h3, h4]
    exact hR
  rw [decide_eq_true ⟨h0.1, h0.2, h1, h2, h3, h4⟩] at hR
  simp (maxSteps := 1000000) (disch := first | omega | (simp only [sizeAlloc, sizeDrew, sizeSet, sizePut] <;> omega) | fail) only [GS, TT_eq, TTl, Nat.reduceAdd, Nat.reduceMul, Nat.reduceSub, Nat.reduceDiv, Nat.reduceMod, Nat.reducePow, Nat.reduceEqDiff, ↓reduceIte, reduceCtorEq, Int.reduceToNat, Int.reduceAdd, Int.reduceSub, Int.reduceMul, c1, h1, h2, h3, h4]
  exact hR
theorem rnum12_cps (v : Int) (h1 : -9223372036854775808 ≤ v) (h2 : v ≤ 9223372036854775807) (w : World) (R : Ending → World → Prop) (hR : ∀ w', Mod [] w w' → R (.returned (.string ⟨(numE v).toArray⟩)) w') : Calls Tryz.prog 113 #[.int .i64 v] w R := by
  unfold numE at hR
  refine calls_go 4000 okT Tryz.func113 rfl (rs := [.tmp 2]) rfl Tryz.ntmps113 (args := [.int .i64 v]) ?_
  simp (maxSteps := 1000000) (disch := first | omega | (simp only [sizeAlloc, sizeDrew, sizeSet, sizePut] <;> omega) | fail) only [GS, TT_eq, TTl, Nat.reduceAdd, Nat.reduceMul, Nat.reduceSub, Nat.reduceDiv, Nat.reduceMod, Nat.reducePow, Nat.reduceEqDiff, ↓reduceIte, reduceCtorEq, Int.reduceToNat, Int.reduceAdd, Int.reduceSub, Int.reduceMul]
  refine ⟨fok102, rNumT_cps v h1 h2 _ _ fun w1 hM => .inl ⟨_, rfl, hold_ops okT (rs := [.tmp 2]) rfl ?_⟩⟩
  generalize numS v = P at *
  obtain ⟨t, e⟩ := P
  unfold stV
  simp (maxSteps := 1000000) (disch := first | omega | (simp only [sizeAlloc, sizeDrew, sizeSet, sizePut] <;> omega) | fail) only [GS, TT_eq, TTl, Nat.reduceAdd, Nat.reduceMul, Nat.reduceSub, Nat.reduceDiv, Nat.reduceMod, Nat.reducePow, Nat.reduceEqDiff, ↓reduceIte, reduceCtorEq, Int.reduceToNat, Int.reduceAdd, Int.reduceSub, Int.reduceMul]
  exact hR _ hM
set_option maxHeartbeats 4000000 in
theorem rTxn12_cps (x : Tx) (w : World) (R : Ending → World → Prop) (hR : ∀ w', Mod [] w w' → R (.returned (stV (txnS x))) w') : Calls Tryz.prog 68 #[txV x] w R := by
  have hMT := rMayTxn_cps x
  obtain ⟨a, b, c⟩ := x
  unfold txnS at hR
  unfold txV at hMT ⊢
  simp only at hR hMT ⊢
  refine calls_go 4000 okT Tryz.func68 rfl (rs := [.tmp 2, .tmp 3]) rfl Tryz.ntmps68 (args := [.agg #[.int .i64 a, .int .i64 b, .int .i64 c]]) ?_
  simp (maxSteps := 1000000) (disch := first | omega | (simp only [sizeAlloc, sizeDrew, sizeSet, sizePut] <;> omega) | fail) only [GS, TT_eq, TTl, Nat.reduceAdd, Nat.reduceMul, Nat.reduceSub, Nat.reduceDiv, Nat.reduceMod, Nat.reducePow, Nat.reduceEqDiff, ↓reduceIte, reduceCtorEq, Int.reduceToNat, Int.reduceAdd, Int.reduceSub, Int.reduceMul]
  have hM := (Mod.refl [] w).alloc (.cells #[.int .i64 a, .int .i64 b, .int .i64 c] 23)
  have hb := heapNew (w := w) (o := .cells #[.int .i64 a, .int .i64 b, .int .i64 c] 23)
  generalize w.alloc (.cells #[.int .i64 a, .int .i64 b, .int .i64 c] 23) = w1 at hM hb ⊢
  generalize w.heap.size = n at *
  refine ⟨fok75, hMT _ _ fun w2 hM2 => .inl ⟨_, rfl, hold_ops okT (rs := [.tmp 2, .tmp 3]) rfl ?_⟩⟩
  have hb2 := hM2.get hb (by simp)
  have hM02 := hM.trans hM2 (by simp)
  cases ht : txB (a, b, c)
  · rw [if_neg (by rw [ht]; simp)] at hR
    simp (maxSteps := 1000000) (disch := first | omega | (simp only [sizeAlloc, sizeDrew, sizeSet, sizePut] <;> omega) | fail) only [GS, TT_eq, TTl, Nat.reduceAdd, Nat.reduceMul, Nat.reduceSub, Nat.reduceDiv, Nat.reduceMod, Nat.reducePow, Nat.reduceEqDiff, ↓reduceIte, reduceCtorEq, Int.reduceToNat, Int.reduceAdd, Int.reduceSub, Int.reduceMul]
    exact hR _ hM02
  rw [if_pos ht] at hR
  unfold txB at ht
  have ht := of_decide_eq_true ht
  simp only at ht
  simp (maxSteps := 1000000) (disch := first | omega | (simp only [sizeAlloc, sizeDrew, sizeSet, sizePut] <;> omega) | fail) only [GS, TT_eq, TTl, Nat.reduceAdd, Nat.reduceMul, Nat.reduceSub, Nat.reduceDiv, Nat.reduceMod, Nat.reducePow, Nat.reduceEqDiff, ↓reduceIte, reduceCtorEq, Int.reduceToNat, Int.reduceAdd, Int.reduceSub, Int.reduceMul]
  refine hold_draw okT (rs := [.tmp 2, .tmp 3]) rfl [0, 1, 3, 0, 8, 31, 0, 64, 255, 511, 1023, 2047, 2047, 8191, 16383] [0, 1, 3, 4, 6, 7, 2, 5, 8, 9, 10, 11, 12, 13, 14] (by kernel_rfl) (by kernel_rfl) ?_
  have hb3 : (w2.drewN 1).heap[n]? = _ := hb2
  have hM03 := hM02.drewN 1
  generalize w2.drewN 1 = w3 at hb3 hM03 ⊢
  have c3 := fun o => cellOf (o := o) hb3
  have d1 : w3.cell? ⟨n, 1, none⟩ = some (.int .i64 b) := c3 1
  have d2 : w3.cell? ⟨n, 2, none⟩ = some (.int .i64 c) := c3 2
  have l1 := numE_len (v := a) (by omega) (by omega)
  have l2 := numE_len (v := b) (by omega) (by omega)
  have l3 := numE_len (v := c) (by omega) (by omega)
  simp (maxSteps := 1000000) (disch := first | omega | (simp only [sizeAlloc, sizeDrew, sizeSet, sizePut] <;> omega) | fail) only [GS, TT_eq, TTl, Nat.reduceAdd, Nat.reduceMul, Nat.reduceSub, Nat.reduceDiv, Nat.reduceMod, Nat.reducePow, Nat.reduceEqDiff, ↓reduceIte, reduceCtorEq, Int.reduceToNat, Int.reduceAdd, Int.reduceSub, Int.reduceMul, c3]
  refine ⟨fok113, rnum12_cps a (by omega) (by omega) _ _ fun w4 hM4 => .inl ⟨_, rfl, ?_⟩⟩
  refine ⟨(by repeat' (first | exact cellM d1 hM4 | exact cellM d2 hM4 | apply And.intro)), hold_dops okT (rs := [.tmp 2, .tmp 3]) rfl ?_⟩
  simp (maxSteps := 1000000) (disch := first | omega | (simp only [sizeAlloc, sizeDrew, sizeSet, sizePut] <;> omega) | fail) only [GS, TT_eq, TTl, Nat.reduceAdd, Nat.reduceMul, Nat.reduceSub, Nat.reduceDiv, Nat.reduceMod, Nat.reducePow, Nat.reduceEqDiff, ↓reduceIte, reduceCtorEq, Int.reduceToNat, Int.reduceAdd, Int.reduceSub, Int.reduceMul]
  refine ⟨fok113, rnum12_cps b (by omega) (by omega) _ _ fun w5 hM5 => .inl ⟨_, rfl, ?_⟩⟩
  have hM45 := hM4.trans hM5 (by simp)
  first | refine ⟨(by repeat' (first | exact cellM d1 hM45 | exact cellM d2 hM45 | apply And.intro)), hold_dops okT (rs := [.tmp 2, .tmp 3]) rfl ?_⟩ | refine hold_dops okT (rs := [.tmp 2, .tmp 3]) rfl ?_
  simp (maxSteps := 1000000) (disch := first | omega | (simp only [sizeAlloc, sizeDrew, sizeSet, sizePut] <;> omega) | fail) only [GS, TT_eq, TTl, Nat.reduceAdd, Nat.reduceMul, Nat.reduceSub, Nat.reduceDiv, Nat.reduceMod, Nat.reducePow, Nat.reduceEqDiff, ↓reduceIte, reduceCtorEq, Int.reduceToNat, Int.reduceAdd, Int.reduceSub, Int.reduceMul]
  refine ⟨fok113, rnum12_cps c (by omega) (by omega) _ _ fun w6 hM6 => .inl ⟨_, rfl, ?_⟩⟩
  have hM46 := hM45.trans hM6 (by simp)
  first | refine ⟨(by repeat' (first | exact cellM d1 hM46 | exact cellM d2 hM46 | apply And.intro)), hold_dops okT (rs := [.tmp 2, .tmp 3]) rfl ?_⟩ | refine hold_dops okT (rs := [.tmp 2, .tmp 3]) rfl ?_
  simp (maxSteps := 1000000) (disch := first | omega | (simp only [sizeAlloc, sizeDrew, sizeSet, sizePut] <;> omega) | fail) only [GS, TT_eq, TTl, Nat.reduceAdd, Nat.reduceMul, Nat.reduceSub, Nat.reduceDiv, Nat.reduceMod, Nat.reducePow, Nat.reduceEqDiff, ↓reduceIte, reduceCtorEq, Int.reduceToNat, Int.reduceAdd, Int.reduceSub, Int.reduceMul]
  have hrd := Rd.lit (w := w6) (size := 1) (n := 3) (e := 9) (xs := [numE a, numE b, numE c].map strV) rfl
  refine ⟨fok51, rRow_cps _ [numE a, numE b, numE c] _ _ (by simp) (by simp; omega) hrd fun w7 hM7 => .inl ⟨_, rfl, ?_⟩⟩
  refine hold_dops okT (rs := [.tmp 2, .tmp 3]) rfl ?_
  unfold stV at hR ⊢
  simp (maxSteps := 1000000) (disch := first | omega | (simp only [sizeAlloc, sizeDrew, sizeSet, sizePut] <;> omega) | fail) only [GS, TT_eq, TTl, Nat.reduceAdd, Nat.reduceMul, Nat.reduceSub, Nat.reduceDiv, Nat.reduceMod, Nat.reducePow, Nat.reduceEqDiff, ↓reduceIte, reduceCtorEq, Int.reduceToNat, Int.reduceAdd, Int.reduceSub, Int.reduceMul]
  exact hR _ (((hM03.trans hM46 (by simp)).alloc _).trans hM7 (by simp))
theorem nuV_eq (o : Option Nat) : nuV o = .tuple #[.int .i64 ((o.getD 0 : Nat) : Int), .bool o.isSome] := by cases o <;> rfl
set_option maxRecDepth 20000 in
set_option maxHeartbeats 8000000 in
theorem rReadTxn12_cps (S : List UInt8) (hS : S.length ≤ maxLen) (w : World) (R : Ending → World → Prop)
    (h1 : ∀ x w', untxO S = some x → Mod [] w w' → R (.returned (.tuple #[txV x, .bool true])) w') (h0 : untxO S = none → ∀ w', Mod [] w w' → R (.returned (.tuple #[txV (0, 0, 0), .bool false])) w') :
    Calls Tryz.prog 82 #[.string ⟨S.toArray⟩] w R := by
  generalize hX : untxO S = X at h1 h0
  unfold untxO rowO at hX
  refine calls_go 4000 okT Tryz.func82 rfl (rs := [.cell 2 23, .tmp 3]) rfl Tryz.ntmps82 (args := [.string ⟨S.toArray⟩]) ?_
  simp (maxSteps := 1000000) (disch := first | omega | (simp only [sizeAlloc, sizeDrew, sizeSet, sizePut] <;> omega) | fail) only [GS, TT_eq, TTl, Nat.reduceAdd, Nat.reduceMul, Nat.reduceSub, Nat.reduceDiv, Nat.reduceMod, Nat.reducePow, Nat.reduceEqDiff, ↓reduceIte, reduceCtorEq, Int.reduceToNat, Int.reduceAdd, Int.reduceSub, Int.reduceMul]
  have hh := heapNew (w := w) (o := .cells #[.int .i64 0, .int .i64 0, .int .i64 0] 23)
  have hM0 := (Mod.refl [] w).alloc (.cells #[.int .i64 0, .int .i64 0, .int .i64 0] 23)
  generalize w.alloc (.cells #[.int .i64 0, .int .i64 0, .int .i64 0] 23) = w1 at hh hM0 ⊢
  generalize hn : w.heap.size = n at *
  have hge : w.heap.size ≤ n := by omega
  refine ⟨fok59, rPartsA_cps S hS _ _ (fun hc w2 hM2 => .inl ⟨_, rfl, hold_ops okT (rs := [.cell 2 23, .tmp 3]) rfl ?_⟩) (fun hc sv w2 hown hM2 => .inl ⟨_, rfl, hold_ops okT (rs := [.cell 2 23, .tmp 3]) rfl ?_⟩)⟩
  · have hk : kindS S = 0 := by unfold kindS; rw [if_neg hc]
    rw [if_neg (fun h => by omega)] at hX
    simp (maxSteps := 1000000) (disch := first | omega | (simp only [sizeAlloc, sizeDrew, sizeSet, sizePut] <;> omega) | fail) only [GS, TT_eq, TTl, Nat.reduceAdd, Nat.reduceMul, Nat.reduceSub, Nat.reduceDiv, Nat.reduceMod, Nat.reducePow, Nat.reduceEqDiff, ↓reduceIte, reduceCtorEq, Int.reduceToNat, Int.reduceAdd, Int.reduceSub, Int.reduceMul]
    refine ⟨fok60, rKindA_cps S hS _ _ fun w3 hM3 => .inl ⟨_, rfl, hold_ops okT (rs := [.cell 2 23, .tmp 3]) rfl ?_⟩⟩
    rw [hk]
    have hM23 := hM2.trans hM3 (by simp)
    have hh3 := hM23.get hh (by simp)
    have hM03 := hM0.trans hM23 (by simp)
    have c3 := fun o => cellOf (o := o) hh3
    have x3 := fun o => frozenOf (o := o) hh3
    simp (maxSteps := 1000000) (disch := first | omega | (simp only [sizeAlloc, sizeDrew, sizeSet, sizePut] <;> omega) | fail) only [GS, TT_eq, TTl, Nat.reduceAdd, Nat.reduceMul, Nat.reduceSub, Nat.reduceDiv, Nat.reduceMod, Nat.reducePow, Nat.reduceEqDiff, ↓reduceIte, reduceCtorEq, Int.reduceToNat, Int.reduceAdd, Int.reduceSub, Int.reduceMul, c3, x3]
    have hhE : (((w3.setCell ⟨n, 0, none⟩ (.int .i64 0)).setCell ⟨n, 1, none⟩ (.int .i64 0)).setCell ⟨n, 2, none⟩ (.int .i64 0)).heap[n]? = _ := st3 hh3
    have hME : Mod [] w (((w3.setCell ⟨n, 0, none⟩ (.int .i64 0)).setCell ⟨n, 1, none⟩ (.int .i64 0)).setCell ⟨n, 2, none⟩ (.int .i64 0)) := ((hM03.set (p := ⟨n, 0, none⟩) (.inr hge) _).set (p := ⟨n, 1, none⟩) (.inr hge) _).set (p := ⟨n, 2, none⟩) (.inr hge) _
    revert hhE hME
    generalize ((w3.setCell ⟨n, 0, none⟩ (.int .i64 0)).setCell ⟨n, 1, none⟩ (.int .i64 0)).setCell ⟨n, 2, none⟩ (.int .i64 0) = wE
    intro hhE hME
    have cE := fun o => cellOf (o := o) hhE
    simp (maxSteps := 1000000) (disch := first | omega | (simp only [sizeAlloc, sizeDrew, sizeSet, sizePut] <;> omega) | fail) only [GS, TT_eq, TTl, Nat.reduceAdd, Nat.reduceMul, Nat.reduceSub, Nat.reduceDiv, Nat.reduceMod, Nat.reducePow, Nat.reduceEqDiff, ↓reduceIte, reduceCtorEq, Int.reduceToNat, Int.reduceAdd, Int.reduceSub, Int.reduceMul, loadW]
    exact ⟨_, cE 0, _, cE 1, _, cE 2, h0 hX.symm _ hME⟩
  · obtain ⟨pa, pc, rfl⟩ := (Rd.own hown).slice
    have hlp := partsS_len S
    have hlS := (check0 hc).2.2.1
    simp (maxSteps := 1000000) (disch := first | omega | (simp only [sizeAlloc, sizeDrew, sizeSet, sizePut] <;> omega) | fail) only [GS, TT_eq, TTl, Nat.reduceAdd, Nat.reduceMul, Nat.reduceSub, Nat.reduceDiv, Nat.reduceMod, Nat.reducePow, Nat.reduceEqDiff, ↓reduceIte, reduceCtorEq, Int.reduceToNat, Int.reduceAdd, Int.reduceSub, Int.reduceMul]
    refine ⟨fok60, rKindA_cps S hS _ _ fun w3 hM3 => .inl ⟨_, rfl, hold_ops okT (rs := [.cell 2 23, .tmp 3]) rfl ?_⟩⟩
    have hM23 := hM2.trans hM3 (by simp)
    have hh3 := hM23.get hh (by simp)
    have hM03 := hM0.trans hM23 (by simp)
    have hrp := (Rd.own hown).mod hM3 (by simp)
    have c3 := fun o => cellOf (o := o) hh3
    have x3 := fun o => frozenOf (o := o) hh3
    have hblk : ∀ b o c, (Value.slice pa (partsS S).length pc) = .slice (some ⟨b, o, none⟩) (partsS S).length c → n < b := fun b o c e => by
      have hl := hown.lt b (by rw [e]; rfl)
      have := (Array.getElem?_eq_some_iff.1 hh).1
      omega
    by_cases hk : (kindS S : Int) = 3
    rotate_left
    · rw [if_neg (fun h => hk (by have := h.1; omega))] at hX
      simp (maxSteps := 1000000) (disch := first | omega | (simp only [sizeAlloc, sizeDrew, sizeSet, sizePut] <;> omega) | fail) only [GS, TT_eq, TTl, Nat.reduceAdd, Nat.reduceMul, Nat.reduceSub, Nat.reduceDiv, Nat.reduceMod, Nat.reducePow, Nat.reduceEqDiff, ↓reduceIte, reduceCtorEq, Int.reduceToNat, Int.reduceAdd, Int.reduceSub, Int.reduceMul, c3, x3, hk]
      have hhE : (((w3.setCell ⟨n, 0, none⟩ (.int .i64 0)).setCell ⟨n, 1, none⟩ (.int .i64 0)).setCell ⟨n, 2, none⟩ (.int .i64 0)).heap[n]? = _ := st3 hh3
      have hME : Mod [] w (((w3.setCell ⟨n, 0, none⟩ (.int .i64 0)).setCell ⟨n, 1, none⟩ (.int .i64 0)).setCell ⟨n, 2, none⟩ (.int .i64 0)) := ((hM03.set (p := ⟨n, 0, none⟩) (.inr hge) _).set (p := ⟨n, 1, none⟩) (.inr hge) _).set (p := ⟨n, 2, none⟩) (.inr hge) _
      revert hhE hME
      generalize ((w3.setCell ⟨n, 0, none⟩ (.int .i64 0)).setCell ⟨n, 1, none⟩ (.int .i64 0)).setCell ⟨n, 2, none⟩ (.int .i64 0) = wE
      intro hhE hME
      have cE := fun o => cellOf (o := o) hhE
      simp (maxSteps := 1000000) (disch := first | omega | (simp only [sizeAlloc, sizeDrew, sizeSet, sizePut] <;> omega) | fail) only [GS, TT_eq, TTl, Nat.reduceAdd, Nat.reduceMul, Nat.reduceSub, Nat.reduceDiv, Nat.reduceMod, Nat.reducePow, Nat.reduceEqDiff, ↓reduceIte, reduceCtorEq, Int.reduceToNat, Int.reduceAdd, Int.reduceSub, Int.reduceMul, loadW]
      exact ⟨_, cE 0, _, cE 1, _, cE 2, h0 hX.symm _ hME⟩
    by_cases hl : (((partsS S).length : Nat) : Int) = 3
    rotate_left
    · rw [if_neg (fun h => hl (by omega))] at hX
      simp (maxSteps := 1000000) (disch := first | omega | (simp only [sizeAlloc, sizeDrew, sizeSet, sizePut] <;> omega) | fail) only [GS, TT_eq, TTl, Nat.reduceAdd, Nat.reduceMul, Nat.reduceSub, Nat.reduceDiv, Nat.reduceMod, Nat.reducePow, Nat.reduceEqDiff, ↓reduceIte, reduceCtorEq, Int.reduceToNat, Int.reduceAdd, Int.reduceSub, Int.reduceMul, c3, x3, hk, hl]
      have hhE : (((w3.setCell ⟨n, 0, none⟩ (.int .i64 0)).setCell ⟨n, 1, none⟩ (.int .i64 0)).setCell ⟨n, 2, none⟩ (.int .i64 0)).heap[n]? = _ := st3 hh3
      have hME : Mod [] w (((w3.setCell ⟨n, 0, none⟩ (.int .i64 0)).setCell ⟨n, 1, none⟩ (.int .i64 0)).setCell ⟨n, 2, none⟩ (.int .i64 0)) := ((hM03.set (p := ⟨n, 0, none⟩) (.inr hge) _).set (p := ⟨n, 1, none⟩) (.inr hge) _).set (p := ⟨n, 2, none⟩) (.inr hge) _
      revert hhE hME
      generalize ((w3.setCell ⟨n, 0, none⟩ (.int .i64 0)).setCell ⟨n, 1, none⟩ (.int .i64 0)).setCell ⟨n, 2, none⟩ (.int .i64 0) = wE
      intro hhE hME
      have cE := fun o => cellOf (o := o) hhE
      simp (maxSteps := 1000000) (disch := first | omega | (simp only [sizeAlloc, sizeDrew, sizeSet, sizePut] <;> omega) | fail) only [GS, TT_eq, TTl, Nat.reduceAdd, Nat.reduceMul, Nat.reduceSub, Nat.reduceDiv, Nat.reduceMod, Nat.reducePow, Nat.reduceEqDiff, ↓reduceIte, reduceCtorEq, Int.reduceToNat, Int.reduceAdd, Int.reduceSub, Int.reduceMul, loadW]
      exact ⟨_, cE 0, _, cE 1, _, cE 2, h0 hX.symm _ hME⟩
    rw [if_pos ⟨by omega, by omega, by omega⟩] at hX
    simp only at hX
    have hpc := parts_ok hc
    obtain ⟨t0, t1, t2, e⟩ := len3' (show (partsS S).length = 3 by omega)
    rw [e] at hrp hpc hX hblk
    simp only [List.getD_cons_zero, List.getD_cons_succ] at hX
    obtain ⟨b1, o1, c1, e1, _, g1⟩ := hrp.at (by simp) (by simp)
    have hnb := hblk _ _ _ e1
    have f0 : w3.cell? ⟨b1, o1, none⟩ = some (.string ⟨t0.toArray⟩) := g1 0 _ rfl
    have f1 : w3.cell? ⟨b1, o1 + 1, none⟩ = some (.string ⟨t1.toArray⟩) := g1 1 _ rfl
    have f2 : w3.cell? ⟨b1, o1 + 2, none⟩ = some (.string ⟨t2.toArray⟩) := g1 2 _ rfl
    have z0 := (check0 (hpc t0 (by simp))).2.2.1
    have z1 := (check0 (hpc t1 (by simp))).2.2.1
    have z2 := (check0 (hpc t2 (by simp))).2.2.1
    rw [e]
    rw [Value.slice.injEq] at e1
    obtain ⟨rfl, -, rfl⟩ := e1
    have hl3 : (([t0, t1, t2] : List (List UInt8)).length : Int) = 3 := rfl
    simp (maxSteps := 1000000) (disch := first | omega | (simp only [sizeAlloc, sizeDrew, sizeSet, sizePut] <;> omega) | fail) only [GS, TT_eq, TTl, Nat.reduceAdd, Nat.reduceMul, Nat.reduceSub, Nat.reduceDiv, Nat.reduceMod, Nat.reducePow, Nat.reduceEqDiff, ↓reduceIte, reduceCtorEq, Int.reduceToNat, Int.reduceAdd, Int.reduceSub, Int.reduceMul, f0, hk, hl3]
    refine ⟨fok84, rReadNumA_cps t0 (by unfold maxLen; omega) _ _ fun w4 hM4 => .inl ⟨_, rfl, hold_ops okT (rs := [.cell 2 23, .tmp 3]) rfl ?_⟩⟩
    rw [nuV_eq]
    have f1 := cellM f1 hM4
    have f2 := cellM f2 hM4
    simp (maxSteps := 1000000) (disch := first | omega | (simp only [sizeAlloc, sizeDrew, sizeSet, sizePut] <;> omega) | fail) only [GS, TT_eq, TTl, Nat.reduceAdd, Nat.reduceMul, Nat.reduceSub, Nat.reduceDiv, Nat.reduceMod, Nat.reducePow, Nat.reduceEqDiff, ↓reduceIte, reduceCtorEq, Int.reduceToNat, Int.reduceAdd, Int.reduceSub, Int.reduceMul, f1]
    refine ⟨fok84, rReadNumA_cps t1 (by unfold maxLen; omega) _ _ fun w5 hM5 => .inl ⟨_, rfl, hold_ops okT (rs := [.cell 2 23, .tmp 3]) rfl ?_⟩⟩
    rw [nuV_eq]
    have f2 := cellM f2 hM5
    simp (maxSteps := 1000000) (disch := first | omega | (simp only [sizeAlloc, sizeDrew, sizeSet, sizePut] <;> omega) | fail) only [GS, TT_eq, TTl, Nat.reduceAdd, Nat.reduceMul, Nat.reduceSub, Nat.reduceDiv, Nat.reduceMod, Nat.reducePow, Nat.reduceEqDiff, ↓reduceIte, reduceCtorEq, Int.reduceToNat, Int.reduceAdd, Int.reduceSub, Int.reduceMul, f2]
    refine ⟨fok84, rReadNumA_cps t2 (by unfold maxLen; omega) _ _ fun w6 hM6 => .inl ⟨_, rfl, hold_ops okT (rs := [.cell 2 23, .tmp 3]) rfl ?_⟩⟩
    rw [nuV_eq]
    have hM36 := (hM4.trans hM5 (by simp)).trans hM6 (by simp)
    have hh6 := hM36.get hh3 (by simp)
    have hM06 := hM03.trans hM36 (by simp)
    have hs06 := hM06.size
    have hX2 : (if (numT t0).isSome = true ∧ (numT t1).isSome = true ∧ (numT t2).isSome = true ∧ txB (((numT t0).getD 0 : Nat), ((numT t1).getD 0 : Nat), ((numT t2).getD 0 : Nat)) = true then some ((((numT t0).getD 0 : Nat) : Int), (((numT t1).getD 0 : Nat) : Int), (((numT t2).getD 0 : Nat) : Int)) else none) = X := by
      rw [← hX]
      cases numT t0 <;> cases numT t1 <;> cases numT t2 <;> simp
    replace hX := hX2
    clear hX2 f0 f1 f2 g1 hM4 hM5 hM6 hM36 hh3 hM03 hown hblk hrp c3 x3
    generalize (numT t0).isSome = s0 at hX ⊢
    generalize (numT t1).isSome = s1 at hX ⊢
    generalize (numT t2).isSome = s2 at hX ⊢
    generalize (numT t0).getD 0 = v0 at hX ⊢
    generalize (numT t1).getD 0 = v1 at hX ⊢
    generalize (numT t2).getD 0 = v2 at hX ⊢
    have hMT := rMayTxn_cps ((v0 : Int), (v1 : Int), (v2 : Int))
    unfold txV at hMT
    simp only at hMT
    simp (maxSteps := 1000000) (disch := first | omega | (simp only [sizeAlloc, sizeDrew, sizeSet, sizePut] <;> omega) | fail) only [GS, TT_eq, TTl, Nat.reduceAdd, Nat.reduceMul, Nat.reduceSub, Nat.reduceDiv, Nat.reduceMod, Nat.reducePow, Nat.reduceEqDiff, ↓reduceIte, reduceCtorEq, Int.reduceToNat, Int.reduceAdd, Int.reduceSub, Int.reduceMul]
    have hhX : ((((w6.alloc (.cells #[.int .i64 0, .int .i64 0, .int .i64 0] 23)).setCell ⟨w6.heap.size, 0, none⟩ (.int .i64 (v0 : Nat))).setCell ⟨w6.heap.size, 1, none⟩ (.int .i64 (v1 : Nat))).setCell ⟨w6.heap.size, 2, none⟩ (.int .i64 (v2 : Nat))).heap[w6.heap.size]? = _ := st3 (heapNew (w := w6) (o := .cells #[.int .i64 0, .int .i64 0, .int .i64 0] 23))
    have hM6X : Mod [] w6 ((((w6.alloc (.cells #[.int .i64 0, .int .i64 0, .int .i64 0] 23)).setCell ⟨w6.heap.size, 0, none⟩ (.int .i64 (v0 : Nat))).setCell ⟨w6.heap.size, 1, none⟩ (.int .i64 (v1 : Nat))).setCell ⟨w6.heap.size, 2, none⟩ (.int .i64 (v2 : Nat))) := ((((Mod.refl [] w6).alloc (.cells #[.int .i64 0, .int .i64 0, .int .i64 0] 23)).set (p := ⟨w6.heap.size, 0, none⟩) (.inr (Nat.le_refl _)) _).set (p := ⟨w6.heap.size, 1, none⟩) (.inr (Nat.le_refl _)) _).set (p := ⟨w6.heap.size, 2, none⟩) (.inr (Nat.le_refl _)) _
    revert hhX hM6X
    generalize (((w6.alloc (.cells #[.int .i64 0, .int .i64 0, .int .i64 0] 23)).setCell ⟨w6.heap.size, 0, none⟩ (.int .i64 (v0 : Nat))).setCell ⟨w6.heap.size, 1, none⟩ (.int .i64 (v1 : Nat))).setCell ⟨w6.heap.size, 2, none⟩ (.int .i64 (v2 : Nat)) = w7
    have hnb6 := (Array.getElem?_eq_some_iff.1 hh6).1
    generalize w6.heap.size = bx at *
    intro hhX hM6X
    have hh7 := hM6X.get hh6 (by simp)
    have hM07 := hM06.trans hM6X (by simp)
    have c7 := fun o => cellOf (o := o) hh7
    have x7 := fun o => frozenOf (o := o) hh7
    have d7 := fun o => cellOf (o := o) hhX
    cases s0
    · rw [if_neg (by simp)] at hX
      simp (maxSteps := 1000000) (disch := first | omega | (simp only [sizeAlloc, sizeDrew, sizeSet, sizePut] <;> omega) | fail) only [GS, TT_eq, TTl, Nat.reduceAdd, Nat.reduceMul, Nat.reduceSub, Nat.reduceDiv, Nat.reduceMod, Nat.reducePow, Nat.reduceEqDiff, ↓reduceIte, reduceCtorEq, Int.reduceToNat, Int.reduceAdd, Int.reduceSub, Int.reduceMul, c7, x7]
      have hhE : (((w7.setCell ⟨n, 0, none⟩ (.int .i64 0)).setCell ⟨n, 1, none⟩ (.int .i64 0)).setCell ⟨n, 2, none⟩ (.int .i64 0)).heap[n]? = _ := st3 hh7
      have hME : Mod [] w (((w7.setCell ⟨n, 0, none⟩ (.int .i64 0)).setCell ⟨n, 1, none⟩ (.int .i64 0)).setCell ⟨n, 2, none⟩ (.int .i64 0)) := ((hM07.set (p := ⟨n, 0, none⟩) (.inr hge) _).set (p := ⟨n, 1, none⟩) (.inr hge) _).set (p := ⟨n, 2, none⟩) (.inr hge) _
      revert hhE hME
      generalize ((w7.setCell ⟨n, 0, none⟩ (.int .i64 0)).setCell ⟨n, 1, none⟩ (.int .i64 0)).setCell ⟨n, 2, none⟩ (.int .i64 0) = wE
      intro hhE hME
      have cE := fun o => cellOf (o := o) hhE
      simp (maxSteps := 1000000) (disch := first | omega | (simp only [sizeAlloc, sizeDrew, sizeSet, sizePut] <;> omega) | fail) only [GS, TT_eq, TTl, Nat.reduceAdd, Nat.reduceMul, Nat.reduceSub, Nat.reduceDiv, Nat.reduceMod, Nat.reducePow, Nat.reduceEqDiff, ↓reduceIte, reduceCtorEq, Int.reduceToNat, Int.reduceAdd, Int.reduceSub, Int.reduceMul, loadW]
      exact ⟨_, cE 0, _, cE 1, _, cE 2, h0 hX.symm _ hME⟩
    cases s1
    · rw [if_neg (by simp)] at hX
      simp (maxSteps := 1000000) (disch := first | omega | (simp only [sizeAlloc, sizeDrew, sizeSet, sizePut] <;> omega) | fail) only [GS, TT_eq, TTl, Nat.reduceAdd, Nat.reduceMul, Nat.reduceSub, Nat.reduceDiv, Nat.reduceMod, Nat.reducePow, Nat.reduceEqDiff, ↓reduceIte, reduceCtorEq, Int.reduceToNat, Int.reduceAdd, Int.reduceSub, Int.reduceMul, c7, x7]
      have hhE : (((w7.setCell ⟨n, 0, none⟩ (.int .i64 0)).setCell ⟨n, 1, none⟩ (.int .i64 0)).setCell ⟨n, 2, none⟩ (.int .i64 0)).heap[n]? = _ := st3 hh7
      have hME : Mod [] w (((w7.setCell ⟨n, 0, none⟩ (.int .i64 0)).setCell ⟨n, 1, none⟩ (.int .i64 0)).setCell ⟨n, 2, none⟩ (.int .i64 0)) := ((hM07.set (p := ⟨n, 0, none⟩) (.inr hge) _).set (p := ⟨n, 1, none⟩) (.inr hge) _).set (p := ⟨n, 2, none⟩) (.inr hge) _
      revert hhE hME
      generalize ((w7.setCell ⟨n, 0, none⟩ (.int .i64 0)).setCell ⟨n, 1, none⟩ (.int .i64 0)).setCell ⟨n, 2, none⟩ (.int .i64 0) = wE
      intro hhE hME
      have cE := fun o => cellOf (o := o) hhE
      simp (maxSteps := 1000000) (disch := first | omega | (simp only [sizeAlloc, sizeDrew, sizeSet, sizePut] <;> omega) | fail) only [GS, TT_eq, TTl, Nat.reduceAdd, Nat.reduceMul, Nat.reduceSub, Nat.reduceDiv, Nat.reduceMod, Nat.reducePow, Nat.reduceEqDiff, ↓reduceIte, reduceCtorEq, Int.reduceToNat, Int.reduceAdd, Int.reduceSub, Int.reduceMul, loadW]
      exact ⟨_, cE 0, _, cE 1, _, cE 2, h0 hX.symm _ hME⟩
    cases s2
    · rw [if_neg (by simp)] at hX
      simp (maxSteps := 1000000) (disch := first | omega | (simp only [sizeAlloc, sizeDrew, sizeSet, sizePut] <;> omega) | fail) only [GS, TT_eq, TTl, Nat.reduceAdd, Nat.reduceMul, Nat.reduceSub, Nat.reduceDiv, Nat.reduceMod, Nat.reducePow, Nat.reduceEqDiff, ↓reduceIte, reduceCtorEq, Int.reduceToNat, Int.reduceAdd, Int.reduceSub, Int.reduceMul, c7, x7]
      have hhE : (((w7.setCell ⟨n, 0, none⟩ (.int .i64 0)).setCell ⟨n, 1, none⟩ (.int .i64 0)).setCell ⟨n, 2, none⟩ (.int .i64 0)).heap[n]? = _ := st3 hh7
      have hME : Mod [] w (((w7.setCell ⟨n, 0, none⟩ (.int .i64 0)).setCell ⟨n, 1, none⟩ (.int .i64 0)).setCell ⟨n, 2, none⟩ (.int .i64 0)) := ((hM07.set (p := ⟨n, 0, none⟩) (.inr hge) _).set (p := ⟨n, 1, none⟩) (.inr hge) _).set (p := ⟨n, 2, none⟩) (.inr hge) _
      revert hhE hME
      generalize ((w7.setCell ⟨n, 0, none⟩ (.int .i64 0)).setCell ⟨n, 1, none⟩ (.int .i64 0)).setCell ⟨n, 2, none⟩ (.int .i64 0) = wE
      intro hhE hME
      have cE := fun o => cellOf (o := o) hhE
      simp (maxSteps := 1000000) (disch := first | omega | (simp only [sizeAlloc, sizeDrew, sizeSet, sizePut] <;> omega) | fail) only [GS, TT_eq, TTl, Nat.reduceAdd, Nat.reduceMul, Nat.reduceSub, Nat.reduceDiv, Nat.reduceMod, Nat.reducePow, Nat.reduceEqDiff, ↓reduceIte, reduceCtorEq, Int.reduceToNat, Int.reduceAdd, Int.reduceSub, Int.reduceMul, loadW]
      exact ⟨_, cE 0, _, cE 1, _, cE 2, h0 hX.symm _ hME⟩
    simp (maxSteps := 1000000) (disch := first | omega | (simp only [sizeAlloc, sizeDrew, sizeSet, sizePut] <;> omega) | fail) only [GS, TT_eq, TTl, Nat.reduceAdd, Nat.reduceMul, Nat.reduceSub, Nat.reduceDiv, Nat.reduceMod, Nat.reducePow, Nat.reduceEqDiff, ↓reduceIte, reduceCtorEq, Int.reduceToNat, Int.reduceAdd, Int.reduceSub, Int.reduceMul, d7]
    refine ⟨fok75, hMT _ _ fun w8 hM8 => .inl ⟨_, rfl, hold_ops okT (rs := [.cell 2 23, .tmp 3]) rfl ?_⟩⟩
    have hh8 := hM8.get hh7 (by simp)
    have hhY := hM8.get hhX (by simp)
    have hM08 := hM07.trans hM8 (by simp)
    have c8 := fun o => cellOf (o := o) hh8
    have x8 := fun o => frozenOf (o := o) hh8
    have d8 := fun o => cellOf (o := o) hhY
    cases hB : txB ((v0 : Int), (v1 : Int), (v2 : Int))
    · rw [if_neg (by rw [hB]; simp)] at hX
      simp (maxSteps := 1000000) (disch := first | omega | (simp only [sizeAlloc, sizeDrew, sizeSet, sizePut] <;> omega) | fail) only [GS, TT_eq, TTl, Nat.reduceAdd, Nat.reduceMul, Nat.reduceSub, Nat.reduceDiv, Nat.reduceMod, Nat.reducePow, Nat.reduceEqDiff, ↓reduceIte, reduceCtorEq, Int.reduceToNat, Int.reduceAdd, Int.reduceSub, Int.reduceMul, c8, x8]
      have hhE : (((w8.setCell ⟨n, 0, none⟩ (.int .i64 0)).setCell ⟨n, 1, none⟩ (.int .i64 0)).setCell ⟨n, 2, none⟩ (.int .i64 0)).heap[n]? = _ := st3 hh8
      have hME : Mod [] w (((w8.setCell ⟨n, 0, none⟩ (.int .i64 0)).setCell ⟨n, 1, none⟩ (.int .i64 0)).setCell ⟨n, 2, none⟩ (.int .i64 0)) := ((hM08.set (p := ⟨n, 0, none⟩) (.inr hge) _).set (p := ⟨n, 1, none⟩) (.inr hge) _).set (p := ⟨n, 2, none⟩) (.inr hge) _
      revert hhE hME
      generalize ((w8.setCell ⟨n, 0, none⟩ (.int .i64 0)).setCell ⟨n, 1, none⟩ (.int .i64 0)).setCell ⟨n, 2, none⟩ (.int .i64 0) = wE
      intro hhE hME
      have cE := fun o => cellOf (o := o) hhE
      simp (maxSteps := 1000000) (disch := first | omega | (simp only [sizeAlloc, sizeDrew, sizeSet, sizePut] <;> omega) | fail) only [GS, TT_eq, TTl, Nat.reduceAdd, Nat.reduceMul, Nat.reduceSub, Nat.reduceDiv, Nat.reduceMod, Nat.reducePow, Nat.reduceEqDiff, ↓reduceIte, reduceCtorEq, Int.reduceToNat, Int.reduceAdd, Int.reduceSub, Int.reduceMul, loadW]
      exact ⟨_, cE 0, _, cE 1, _, cE 2, h0 hX.symm _ hME⟩
    rw [if_pos (by rw [hB]; simp)] at hX
    simp (maxSteps := 1000000) (disch := first | omega | (simp only [sizeAlloc, sizeDrew, sizeSet, sizePut] <;> omega) | fail) only [GS, TT_eq, TTl, Nat.reduceAdd, Nat.reduceMul, Nat.reduceSub, Nat.reduceDiv, Nat.reduceMod, Nat.reducePow, Nat.reduceEqDiff, ↓reduceIte, reduceCtorEq, Int.reduceToNat, Int.reduceAdd, Int.reduceSub, Int.reduceMul, c8, x8, d8]
    have hhE : (((w8.setCell ⟨n, 0, none⟩ (.int .i64 (v0 : Nat))).setCell ⟨n, 1, none⟩ (.int .i64 (v1 : Nat))).setCell ⟨n, 2, none⟩ (.int .i64 (v2 : Nat))).heap[n]? = _ := st3 hh8
    have hME : Mod [] w (((w8.setCell ⟨n, 0, none⟩ (.int .i64 (v0 : Nat))).setCell ⟨n, 1, none⟩ (.int .i64 (v1 : Nat))).setCell ⟨n, 2, none⟩ (.int .i64 (v2 : Nat))) := ((hM08.set (p := ⟨n, 0, none⟩) (.inr hge) _).set (p := ⟨n, 1, none⟩) (.inr hge) _).set (p := ⟨n, 2, none⟩) (.inr hge) _
    revert hhE hME
    generalize ((w8.setCell ⟨n, 0, none⟩ (.int .i64 (v0 : Nat))).setCell ⟨n, 1, none⟩ (.int .i64 (v1 : Nat))).setCell ⟨n, 2, none⟩ (.int .i64 (v2 : Nat)) = wE
    intro hhE hME
    have cE := fun o => cellOf (o := o) hhE
    simp (maxSteps := 1000000) (disch := first | omega | (simp only [sizeAlloc, sizeDrew, sizeSet, sizePut] <;> omega) | fail) only [GS, TT_eq, TTl, Nat.reduceAdd, Nat.reduceMul, Nat.reduceSub, Nat.reduceDiv, Nat.reduceMod, Nat.reducePow, Nat.reduceEqDiff, ↓reduceIte, reduceCtorEq, Int.reduceToNat, Int.reduceAdd, Int.reduceSub, Int.reduceMul, loadW]
    exact ⟨_, cE 0, _, cE 1, _, cE 2, h1 _ _ hX.symm hME⟩
end Go.Proofs.YthnlmmkhehphiaaGreatDoor
