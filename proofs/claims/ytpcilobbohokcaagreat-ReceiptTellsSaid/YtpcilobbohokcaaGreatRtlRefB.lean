/-
  The reference's organisations and transactions (walks).
-/
import Derived.Test.YtpcilobbohokcaaGreatRtlB5
import Derived.Test.YtpcilobbohokcaaGreatRtlW1
import Derived.Test.YtpcilobbohokcaaGreatRtlW2
set_option linter.unusedSimpArgs false
set_option linter.unusedVariables false
set_option maxRecDepth 20000
namespace Go.Proofs.YtpcilobbohokcaaGreat
open Go Go.Wk Go.RowKit
attribute [local irreducible] go Hold
open Go.Lib
theorem rOrg_cps (k : Int) (w : World) (R : Ending → World → Prop) (hR : R (.returned (.bool (orgB k))) w) : Calls Tryz.prog 92 #[.int .i64 k] w R := by
  refine calls_go 4000 okT Tryz.func92 rfl (rs := [.tmp 2]) rfl Tryz.ntmps92 (args := [.int .i64 k]) ?_
  unfold orgB at hR
  by_cases h0 : 0 ≤ k
  · by_cases h8 : k < 8
    · rw [decide_eq_true ⟨h0, h8⟩] at hR
      simp (maxSteps := 1000000) (disch := first | omega | (simp only [sizeAlloc, sizeDrew, sizeSet, sizePut] <;> omega) | fail) only [GS, TT_eq, TTl, Nat.reduceAdd, Nat.reduceMul, Nat.reduceSub, Nat.reduceDiv, Nat.reduceMod, Nat.reducePow, Nat.reduceEqDiff, ↓reduceIte, reduceCtorEq, Int.reduceToNat, Int.reduceAdd, Int.reduceSub, Int.reduceMul, h0, h8]
      exact hR
    · rw [decide_eq_false (fun h => h8 h.2)] at hR
      simp (maxSteps := 1000000) (disch := first | omega | (simp only [sizeAlloc, sizeDrew, sizeSet, sizePut] <;> omega) | fail) only [GS, TT_eq, TTl, Nat.reduceAdd, Nat.reduceMul, Nat.reduceSub, Nat.reduceDiv, Nat.reduceMod, Nat.reducePow, Nat.reduceEqDiff, ↓reduceIte, reduceCtorEq, Int.reduceToNat, Int.reduceAdd, Int.reduceSub, Int.reduceMul, h0, h8]
      exact hR
  · rw [decide_eq_false (fun h => h0 h.1)] at hR
    simp (maxSteps := 1000000) (disch := first | omega | (simp only [sizeAlloc, sizeDrew, sizeSet, sizePut] <;> omega) | fail) only [GS, TT_eq, TTl, Nat.reduceAdd, Nat.reduceMul, Nat.reduceSub, Nat.reduceDiv, Nat.reduceMod, Nat.reducePow, Nat.reduceEqDiff, ↓reduceIte, reduceCtorEq, Int.reduceToNat, Int.reduceAdd, Int.reduceSub, Int.reduceMul, h0]
    exact hR
set_option maxHeartbeats 2000000 in
theorem rMayTxn_cps (x : Tx) (w : World) (R : Ending → World → Prop) (hR : ∀ w', Mod [] w w' → R (.returned (.bool (txB x))) w') : Calls Tryz.prog 43 #[txV x] w R := by
  obtain ⟨a, b, c⟩ := x
  unfold txB at hR
  unfold txV
  simp only at hR ⊢
  refine calls_go 4000 okT Tryz.func43 rfl (rs := [.tmp 2]) rfl Tryz.ntmps43 (args := [.agg #[.int .i64 a, .int .i64 b, .int .i64 c]]) ?_
  simp (maxSteps := 1000000) (disch := first | omega | (simp only [sizeAlloc, sizeDrew, sizeSet, sizePut] <;> omega) | fail) only [GS, TT_eq, TTl, Nat.reduceAdd, Nat.reduceMul, Nat.reduceSub, Nat.reduceDiv, Nat.reduceMod, Nat.reducePow, Nat.reduceEqDiff, ↓reduceIte, reduceCtorEq, Int.reduceToNat, Int.reduceAdd, Int.reduceSub, Int.reduceMul]
  have hM := (Mod.refl [] w).alloc (.cells #[.int .i64 a, .int .i64 b, .int .i64 c] 24)
  have hb := heapNew (w := w) (o := .cells #[.int .i64 a, .int .i64 b, .int .i64 c] 24)
  generalize w.alloc (.cells #[.int .i64 a, .int .i64 b, .int .i64 c] 24) = w1 at hM hb ⊢
  generalize w.heap.size = n at *
  have hR := hR _ hM
  have c1 := fun o => cellOf (o := o) hb
  refine ⟨fok92, rOrg_cps a _ _ (.inl ⟨_, rfl, hold_ops okT (rs := [.tmp 2]) rfl ?_⟩)⟩
  unfold orgB
  by_cases h0 : 0 ≤ a ∧ a < 8
  rotate_left
  · rw [decide_eq_false (fun h => h0 ⟨h.1, h.2.1⟩)] at hR
    rw [decide_eq_false h0]
    simp (maxSteps := 1000000) (disch := first | omega | (simp only [sizeAlloc, sizeDrew, sizeSet, sizePut] <;> omega) | fail) only [GS, TT_eq, TTl, Nat.reduceAdd, Nat.reduceMul, Nat.reduceSub, Nat.reduceDiv, Nat.reduceMod, Nat.reducePow, Nat.reduceEqDiff, ↓reduceIte, reduceCtorEq, Int.reduceToNat, Int.reduceAdd, Int.reduceSub, Int.reduceMul, c1]
    exact hR
  rw [decide_eq_true h0]
  by_cases h1 : 1 ≤ b
  rotate_left
  · rw [decide_eq_false (fun h => h1 h.2.2.1)] at hR
    simp (maxSteps := 1000000) (disch := first | omega | (simp only [sizeAlloc, sizeDrew, sizeSet, sizePut] <;> omega) | fail) only [GS, TT_eq, TTl, Nat.reduceAdd, Nat.reduceMul, Nat.reduceSub, Nat.reduceDiv, Nat.reduceMod, Nat.reducePow, Nat.reduceEqDiff, ↓reduceIte, reduceCtorEq, Int.reduceToNat, Int.reduceAdd, Int.reduceSub, Int.reduceMul, c1, h1]
    exact hR
  by_cases h2 : b ≤ 255
  rotate_left
  · rw [decide_eq_false (fun h => h2 h.2.2.2.1)] at hR
    simp (maxSteps := 1000000) (disch := first | omega | (simp only [sizeAlloc, sizeDrew, sizeSet, sizePut] <;> omega) | fail) only [GS, TT_eq, TTl, Nat.reduceAdd, Nat.reduceMul, Nat.reduceSub, Nat.reduceDiv, Nat.reduceMod, Nat.reducePow, Nat.reduceEqDiff, ↓reduceIte, reduceCtorEq, Int.reduceToNat, Int.reduceAdd, Int.reduceSub, Int.reduceMul, c1, h1, h2]
    exact hR
  by_cases h3 : 1 ≤ c
  rotate_left
  · rw [decide_eq_false (fun h => h3 h.2.2.2.2.1)] at hR
    simp (maxSteps := 1000000) (disch := first | omega | (simp only [sizeAlloc, sizeDrew, sizeSet, sizePut] <;> omega) | fail) only [GS, TT_eq, TTl, Nat.reduceAdd, Nat.reduceMul, Nat.reduceSub, Nat.reduceDiv, Nat.reduceMod, Nat.reducePow, Nat.reduceEqDiff, ↓reduceIte, reduceCtorEq, Int.reduceToNat, Int.reduceAdd, Int.reduceSub, Int.reduceMul, c1, h1, h2, h3]
    exact hR
  by_cases h4 : c ≤ 65535
  rotate_left
  · rw [decide_eq_false (fun h => h4 h.2.2.2.2.2)] at hR
    simp (maxSteps := 1000000) (disch := first | omega | (simp only [sizeAlloc, sizeDrew, sizeSet, sizePut] <;> omega) | fail) only [GS, TT_eq, TTl, Nat.reduceAdd, Nat.reduceMul, Nat.reduceSub, Nat.reduceDiv, Nat.reduceMod, Nat.reducePow, Nat.reduceEqDiff, ↓reduceIte, reduceCtorEq, Int.reduceToNat, Int.reduceAdd, Int.reduceSub, Int.reduceMul, c1, h1, h2, h3, h4]
    exact hR
  rw [decide_eq_true ⟨h0.1, h0.2, h1, h2, h3, h4⟩] at hR
  simp (maxSteps := 1000000) (disch := first | omega | (simp only [sizeAlloc, sizeDrew, sizeSet, sizePut] <;> omega) | fail) only [GS, TT_eq, TTl, Nat.reduceAdd, Nat.reduceMul, Nat.reduceSub, Nat.reduceDiv, Nat.reduceMod, Nat.reducePow, Nat.reduceEqDiff, ↓reduceIte, reduceCtorEq, Int.reduceToNat, Int.reduceAdd, Int.reduceSub, Int.reduceMul, c1, h1, h2, h3, h4]
  exact hR
theorem rnum12_cps (v : Int) (h1 : -9223372036854775808 ≤ v) (h2 : v ≤ 9223372036854775807) (w : World) (R : Ending → World → Prop) (hR : ∀ w', Mod [] w w' → R (.returned (.string ⟨(numE v).toArray⟩)) w') : Calls Tryz.prog 87 #[.int .i64 v] w R := by
  unfold numE at hR
  refine calls_go 4000 okT Tryz.func87 rfl (rs := [.tmp 2]) rfl Tryz.ntmps87 (args := [.int .i64 v]) ?_
  simp (maxSteps := 1000000) (disch := first | omega | (simp only [sizeAlloc, sizeDrew, sizeSet, sizePut] <;> omega) | fail) only [GS, TT_eq, TTl, Nat.reduceAdd, Nat.reduceMul, Nat.reduceSub, Nat.reduceDiv, Nat.reduceMod, Nat.reducePow, Nat.reduceEqDiff, ↓reduceIte, reduceCtorEq, Int.reduceToNat, Int.reduceAdd, Int.reduceSub, Int.reduceMul]
  refine ⟨fok102, rNumT_cps v h1 h2 _ _ fun w1 hM => .inl ⟨_, rfl, hold_ops okT (rs := [.tmp 2]) rfl ?_⟩⟩
  generalize numS v = P at *
  obtain ⟨t, e⟩ := P
  unfold stV
  simp (maxSteps := 1000000) (disch := first | omega | (simp only [sizeAlloc, sizeDrew, sizeSet, sizePut] <;> omega) | fail) only [GS, TT_eq, TTl, Nat.reduceAdd, Nat.reduceMul, Nat.reduceSub, Nat.reduceDiv, Nat.reduceMod, Nat.reducePow, Nat.reduceEqDiff, ↓reduceIte, reduceCtorEq, Int.reduceToNat, Int.reduceAdd, Int.reduceSub, Int.reduceMul]
  exact hR _ hM
set_option maxHeartbeats 4000000 in
theorem rTxn12_cps (x : Tx) (w : World) (R : Ending → World → Prop) (hR : ∀ w', Mod [] w w' → R (.returned (stV (txnS x))) w') : Calls Tryz.prog 39 #[txV x] w R := by
  have hMT := rMayTxn_cps x
  obtain ⟨a, b, c⟩ := x
  unfold txnS at hR
  unfold txV at hMT ⊢
  simp only at hR hMT ⊢
  refine calls_go 4000 okT Tryz.func39 rfl (rs := [.tmp 2, .tmp 3]) rfl Tryz.ntmps39 (args := [.agg #[.int .i64 a, .int .i64 b, .int .i64 c]]) ?_
  simp (maxSteps := 1000000) (disch := first | omega | (simp only [sizeAlloc, sizeDrew, sizeSet, sizePut] <;> omega) | fail) only [GS, TT_eq, TTl, Nat.reduceAdd, Nat.reduceMul, Nat.reduceSub, Nat.reduceDiv, Nat.reduceMod, Nat.reducePow, Nat.reduceEqDiff, ↓reduceIte, reduceCtorEq, Int.reduceToNat, Int.reduceAdd, Int.reduceSub, Int.reduceMul]
  have hM := (Mod.refl [] w).alloc (.cells #[.int .i64 a, .int .i64 b, .int .i64 c] 24)
  have hb := heapNew (w := w) (o := .cells #[.int .i64 a, .int .i64 b, .int .i64 c] 24)
  generalize w.alloc (.cells #[.int .i64 a, .int .i64 b, .int .i64 c] 24) = w1 at hM hb ⊢
  generalize w.heap.size = n at *
  refine ⟨fok43, hMT _ _ fun w2 hM2 => .inl ⟨_, rfl, hold_ops okT (rs := [.tmp 2, .tmp 3]) rfl ?_⟩⟩
  have hb2 := hM2.get hb (by simp)
  have hM02 := hM.trans hM2 (by simp)
  cases ht : txB (a, b, c)
  · rw [if_neg (by rw [ht]; simp)] at hR
    simp (maxSteps := 1000000) (disch := first | omega | (simp only [sizeAlloc, sizeDrew, sizeSet, sizePut] <;> omega) | fail) only [GS, TT_eq, TTl, Nat.reduceAdd, Nat.reduceMul, Nat.reduceSub, Nat.reduceDiv, Nat.reduceMod, Nat.reducePow, Nat.reduceEqDiff, ↓reduceIte, reduceCtorEq, Int.reduceToNat, Int.reduceAdd, Int.reduceSub, Int.reduceMul]
    exact hR _ hM02
  rw [if_pos ht] at hR
  unfold txB at ht
  have ht := of_decide_eq_true ht
  simp only at ht
  simp (maxSteps := 1000000) (disch := first | omega | (simp only [sizeAlloc, sizeDrew, sizeSet, sizePut] <;> omega) | fail) only [GS, TT_eq, TTl, Nat.reduceAdd, Nat.reduceMul, Nat.reduceSub, Nat.reduceDiv, Nat.reduceMod, Nat.reducePow, Nat.reduceEqDiff, ↓reduceIte, reduceCtorEq, Int.reduceToNat, Int.reduceAdd, Int.reduceSub, Int.reduceMul]
  refine hold_draw okT (rs := [.tmp 2, .tmp 3]) rfl [0, 1, 3, 0, 8, 31, 0, 64, 255, 511, 1023, 2047, 2047, 8191, 16383] [0, 1, 3, 4, 6, 7, 2, 5, 8, 9, 10, 11, 12, 13, 14] (by kernel_rfl) (by kernel_rfl) ?_
  have hb3 : (w2.drewN 1).heap[n]? = _ := hb2
  have hM03 := hM02.drewN 1
  generalize w2.drewN 1 = w3 at hb3 hM03 ⊢
  have c3 := fun o => cellOf (o := o) hb3
  have d1 : w3.cell? ⟨n, 1, none⟩ = some (.int .i64 b) := c3 1
  have d2 : w3.cell? ⟨n, 2, none⟩ = some (.int .i64 c) := c3 2
  have l1 := numE_len (v := a) (by omega) (by omega)
  have l2 := numE_len (v := b) (by omega) (by omega)
  have l3 := numE_len (v := c) (by omega) (by omega)
  simp (maxSteps := 1000000) (disch := first | omega | (simp only [sizeAlloc, sizeDrew, sizeSet, sizePut] <;> omega) | fail) only [GS, TT_eq, TTl, Nat.reduceAdd, Nat.reduceMul, Nat.reduceSub, Nat.reduceDiv, Nat.reduceMod, Nat.reducePow, Nat.reduceEqDiff, ↓reduceIte, reduceCtorEq, Int.reduceToNat, Int.reduceAdd, Int.reduceSub, Int.reduceMul, c3]
  refine ⟨fok87, rnum12_cps a (by omega) (by omega) _ _ fun w4 hM4 => .inl ⟨_, rfl, ?_⟩⟩
  refine ⟨(by repeat' (first | exact cellM d1 hM4 | exact cellM d2 hM4 | apply And.intro)), hold_dops okT (rs := [.tmp 2, .tmp 3]) rfl ?_⟩
  simp (maxSteps := 1000000) (disch := first | omega | (simp only [sizeAlloc, sizeDrew, sizeSet, sizePut] <;> omega) | fail) only [GS, TT_eq, TTl, Nat.reduceAdd, Nat.reduceMul, Nat.reduceSub, Nat.reduceDiv, Nat.reduceMod, Nat.reducePow, Nat.reduceEqDiff, ↓reduceIte, reduceCtorEq, Int.reduceToNat, Int.reduceAdd, Int.reduceSub, Int.reduceMul]
  refine ⟨fok87, rnum12_cps b (by omega) (by omega) _ _ fun w5 hM5 => .inl ⟨_, rfl, ?_⟩⟩
  have hM45 := hM4.trans hM5 (by simp)
  first | refine ⟨(by repeat' (first | exact cellM d1 hM45 | exact cellM d2 hM45 | apply And.intro)), hold_dops okT (rs := [.tmp 2, .tmp 3]) rfl ?_⟩ | refine hold_dops okT (rs := [.tmp 2, .tmp 3]) rfl ?_
  simp (maxSteps := 1000000) (disch := first | omega | (simp only [sizeAlloc, sizeDrew, sizeSet, sizePut] <;> omega) | fail) only [GS, TT_eq, TTl, Nat.reduceAdd, Nat.reduceMul, Nat.reduceSub, Nat.reduceDiv, Nat.reduceMod, Nat.reducePow, Nat.reduceEqDiff, ↓reduceIte, reduceCtorEq, Int.reduceToNat, Int.reduceAdd, Int.reduceSub, Int.reduceMul]
  refine ⟨fok87, rnum12_cps c (by omega) (by omega) _ _ fun w6 hM6 => .inl ⟨_, rfl, ?_⟩⟩
  have hM46 := hM45.trans hM6 (by simp)
  first | refine ⟨(by repeat' (first | exact cellM d1 hM46 | exact cellM d2 hM46 | apply And.intro)), hold_dops okT (rs := [.tmp 2, .tmp 3]) rfl ?_⟩ | refine hold_dops okT (rs := [.tmp 2, .tmp 3]) rfl ?_
  simp (maxSteps := 1000000) (disch := first | omega | (simp only [sizeAlloc, sizeDrew, sizeSet, sizePut] <;> omega) | fail) only [GS, TT_eq, TTl, Nat.reduceAdd, Nat.reduceMul, Nat.reduceSub, Nat.reduceDiv, Nat.reduceMod, Nat.reducePow, Nat.reduceEqDiff, ↓reduceIte, reduceCtorEq, Int.reduceToNat, Int.reduceAdd, Int.reduceSub, Int.reduceMul]
  have hrd := Rd.lit (w := w6) (size := 1) (n := 3) (e := 9) (xs := [numE a, numE b, numE c].map strV) rfl
  refine ⟨fok89, rRow_cps _ [numE a, numE b, numE c] _ _ (by simp) (by simp; omega) hrd fun w7 hM7 => .inl ⟨_, rfl, ?_⟩⟩
  refine hold_dops okT (rs := [.tmp 2, .tmp 3]) rfl ?_
  unfold stV at hR ⊢
  simp (maxSteps := 1000000) (disch := first | omega | (simp only [sizeAlloc, sizeDrew, sizeSet, sizePut] <;> omega) | fail) only [GS, TT_eq, TTl, Nat.reduceAdd, Nat.reduceMul, Nat.reduceSub, Nat.reduceDiv, Nat.reduceMod, Nat.reducePow, Nat.reduceEqDiff, ↓reduceIte, reduceCtorEq, Int.reduceToNat, Int.reduceAdd, Int.reduceSub, Int.reduceMul]
  exact hR _ (((hM03.trans hM46 (by simp)).alloc _).trans hM7 (by simp))
end Go.Proofs.YtpcilobbohokcaaGreat
