/-
  wire: the forms' readers of votes and decisions (walks).
-/
import Derived.Test.YtpcilobbohokcaaWir9
set_option linter.unusedSimpArgs false
set_option linter.unusedVariables false
namespace Go.Proofs.Ytpcilobbohokcaa
open Go Go.Wk Go.RowKit
attribute [local irreducible] go Hold
open Go.Lib
set_option maxRecDepth 20000 in
set_option maxHeartbeats 4000000 in
theorem wK9_cps (m : Msg) (sa : Value) (p : Nat) (t0 : List UInt8) (l : List (List UInt8)) (rv : Value) (h0 : t0.length ≤ maxLen) (w : World) (hh : w.heap[p]? = some (.cells (msgC m sa).toArray 42 (0, 0))) (hr : Rd w 1 rv (t0 :: l).length ((t0 :: l).map strV)) (R : Ending → World → Prop)
    (h1 : ∀ v w', unyesO t0 = some v → w'.heap[p]? = some (.cells (msgC { m with yes := v } sa).toArray 42 (0, 0)) → Mod [p] w w' → R (.returned (.tuple #[])) w') (hN : unyesO t0 = none → ∀ w', Mod [] w w' → R (.panicked wnoneV) w') : Calls Try.prog 109 #[.pointer (some ⟨p, 0, none⟩), rv] w R := by
  obtain ⟨b2, o2, c2, e2, _, g2⟩ := hr.at (by simp) (by simp)
  have f0 : w.cell? ⟨b2, o2, none⟩ = some (.string ⟨t0.toArray⟩) := g2 0 _ rfl
  subst e2
  refine calls_go 4000 okT Try.func109 rfl (rs := []) rfl Try.ntmps109 (args := [.pointer (some ⟨p, 0, none⟩), .slice (some ⟨b2, o2, none⟩) (t0 :: l).length c2]) ?_
  simp (config := { maxSteps := 1000000 }) (disch := first | omega | (simp only [sizeAlloc, sizeDrew, sizeSet, sizePut] <;> omega) | fail) only [GS1, GS2, GS3, GS4, GS5, GS6, GS7, GS8, GS9, GS10, GS11, TT_eq, TTl, Nat.reduceAdd, Nat.reduceMul, Nat.reduceSub, Nat.reduceDiv, Nat.reduceMod, Nat.reducePow, Nat.reduceEqDiff, ↓reduceIte, reduceCtorEq, true_and, and_true, and_self, false_and, and_false, Int.reduceToNat, Int.reduceAdd, Int.reduceSub, Int.reduceMul, cond_true, cond_false, List.toList_toArray, Option.map_some, Option.map_none, Option.some.injEq, List.cons_append, List.nil_append, List.length_cons, List.length_nil, List.getD_cons_zero, List.getD_cons_succ, f0]
  refine ⟨fok106, wUnyes_cps t0 h0 _ _ (fun v w1 hv hM => .inl ⟨_, rfl, hold_ops okT (rs := []) rfl ?_⟩) (fun hv w1 hM => .inr ⟨_, rfl, hold_ex okT (rs := []) rfl ?_⟩)⟩
  · have hh1 := hM.get hh (by simp)
    have hc := fun o => cellOf (o := o) hh1
    have hf := fun o => frozenOf (o := o) hh1
    unfold msgC at hc
    simp (config := { maxSteps := 1000000 }) (disch := first | omega | (simp only [sizeAlloc, sizeDrew, sizeSet, sizePut] <;> omega) | fail) only [GS1, GS2, GS3, GS4, GS5, GS6, GS7, GS8, GS9, GS10, GS11, TT_eq, TTl, Nat.reduceAdd, Nat.reduceMul, Nat.reduceSub, Nat.reduceDiv, Nat.reduceMod, Nat.reducePow, Nat.reduceEqDiff, ↓reduceIte, reduceCtorEq, true_and, and_true, and_self, false_and, and_false, Int.reduceToNat, Int.reduceAdd, Int.reduceSub, Int.reduceMul, cond_true, cond_false, List.toList_toArray, Option.map_some, Option.map_none, Option.some.injEq, List.cons_append, List.nil_append, List.length_cons, List.length_nil, List.getD_cons_zero, List.getD_cons_succ, hc, hf]
    exact h1 v _ hv (by rw [heapSet hh1]; rfl) ((hM.mono (by simp)).set (.inl (by simp)) _)
  · simp (config := { maxSteps := 1000000 }) (disch := first | omega | (simp only [sizeAlloc, sizeDrew, sizeSet, sizePut] <;> omega) | fail) only [GS1, GS2, GS3, GS4, GS5, GS6, GS7, GS8, GS9, GS10, GS11, TT_eq, TTl, Nat.reduceAdd, Nat.reduceMul, Nat.reduceSub, Nat.reduceDiv, Nat.reduceMod, Nat.reducePow, Nat.reduceEqDiff, ↓reduceIte, reduceCtorEq, true_and, and_true, and_self, false_and, and_false, Int.reduceToNat, Int.reduceAdd, Int.reduceSub, Int.reduceMul, cond_true, cond_false, List.toList_toArray, Option.map_some, Option.map_none, Option.some.injEq, List.cons_append, List.nil_append, List.length_cons, List.length_nil, List.getD_cons_zero, List.getD_cons_succ]
    exact hN hv _ hM
def k6O (t0 : List UInt8) (n : Nat) (t1 : List UInt8) : Option (Bool × List UInt8) := match unyesO t0 with
  | some v => if v = decide (n = 2) then some (v, if v = true then t1 else []) else none
  | none => none
set_option maxRecDepth 20000 in
set_option maxHeartbeats 4000000 in
theorem wK6_cps (m : Msg) (sa : Value) (p : Nat) (t0 : List UInt8) (l : List (List UInt8)) (rv : Value) (htag : m.tag = []) (h0 : t0.length ≤ maxLen) (hl : l.length ≤ 100) (w : World) (hh : w.heap[p]? = some (.cells (msgC m sa).toArray 42 (0, 0))) (hr : Rd w 1 rv (t0 :: l).length ((t0 :: l).map strV)) (hpr : ∀ b o c, rv = .slice (some ⟨b, o, none⟩) (t0 :: l).length c → b ≠ p) (R : Ending → World → Prop)
    (h1 : ∀ v t w', k6O t0 (l.length + 1) (l.getD 0 []) = some (v, t) → w'.heap[p]? = some (.cells (msgC { m with yes := v, tag := t } sa).toArray 42 (0, 0)) → Mod [p] w w' → R (.returned (.tuple #[])) w') (hN : k6O t0 (l.length + 1) (l.getD 0 []) = none → ∀ w', Mod [p] w w' → R (.panicked wnoneV) w') : Calls Try.prog 105 #[.pointer (some ⟨p, 0, none⟩), rv] w R := by
  generalize hX : k6O t0 (l.length + 1) (l.getD 0 []) = X at h1 hN
  unfold k6O at hX
  obtain ⟨b2, o2, c2, e2, _, g2⟩ := hr.at (by simp) (by simp)
  have f0 : w.cell? ⟨b2, o2, none⟩ = some (.string ⟨t0.toArray⟩) := g2 0 _ rfl
  have hbp := hpr _ _ _ e2
  subst e2
  refine calls_go 4000 okT Try.func105 rfl (rs := []) rfl Try.ntmps105 (args := [.pointer (some ⟨p, 0, none⟩), .slice (some ⟨b2, o2, none⟩) (t0 :: l).length c2]) ?_
  simp (config := { maxSteps := 1000000 }) (disch := first | omega | (simp only [sizeAlloc, sizeDrew, sizeSet, sizePut] <;> omega) | fail) only [GS1, GS2, GS3, GS4, GS5, GS6, GS7, GS8, GS9, GS10, GS11, TT_eq, TTl, Nat.reduceAdd, Nat.reduceMul, Nat.reduceSub, Nat.reduceDiv, Nat.reduceMod, Nat.reducePow, Nat.reduceEqDiff, ↓reduceIte, reduceCtorEq, true_and, and_true, and_self, false_and, and_false, Int.reduceToNat, Int.reduceAdd, Int.reduceSub, Int.reduceMul, cond_true, cond_false, List.toList_toArray, Option.map_some, Option.map_none, Option.some.injEq, List.cons_append, List.nil_append, List.length_cons, List.length_nil, List.getD_cons_zero, List.getD_cons_succ, f0]
  refine ⟨fok106, wUnyes_cps t0 h0 _ _ (fun v w1 hv hM => .inl ⟨_, rfl, hold_ops okT (rs := []) rfl ?_⟩) (fun hv w1 hM => .inr ⟨_, rfl, hold_ex okT (rs := []) rfl ?_⟩)⟩
  · rw [hv] at hX
    simp only at hX
    have hh1 := hM.get hh (by simp)
    have hc := fun o => cellOf (o := o) hh1
    have hf := fun o => frozenOf (o := o) hh1
    unfold msgC at hc
    simp (config := { maxSteps := 1000000 }) (disch := first | omega | (simp only [sizeAlloc, sizeDrew, sizeSet, sizePut] <;> omega) | fail) only [GS1, GS2, GS3, GS4, GS5, GS6, GS7, GS8, GS9, GS10, GS11, TT_eq, TTl, Nat.reduceAdd, Nat.reduceMul, Nat.reduceSub, Nat.reduceDiv, Nat.reduceMod, Nat.reducePow, Nat.reduceEqDiff, ↓reduceIte, reduceCtorEq, true_and, and_true, and_self, false_and, and_false, Int.reduceToNat, Int.reduceAdd, Int.reduceSub, Int.reduceMul, cond_true, cond_false, List.toList_toArray, Option.map_some, Option.map_none, Option.some.injEq, List.cons_append, List.nil_append, List.length_cons, List.length_nil, List.getD_cons_zero, List.getD_cons_succ, hc, hf, List.length_cons]
    have hh2 : (w1.setCell ⟨p, 7, none⟩ (.bool v)).heap[p]? = some (.cells (msgC { m with yes := v } sa).toArray 42 (0, 0)) := by rw [heapSet hh1]; rfl
    have hM2 : Mod [p] w (w1.setCell ⟨p, 7, none⟩ (.bool v)) := (hM.mono (by simp)).set (.inl (by simp)) _
    have hk : ∀ (o' : Nat) (u : Value), w1.cell? ⟨b2, o', none⟩ = some u → (w1.setCell ⟨p, 7, none⟩ (.bool v)).cell? ⟨b2, o', none⟩ = some u := fun o' u h => by rw [cellSetN (Ne.symm hbp)]; exact h
    generalize w1.setCell ⟨p, 7, none⟩ (.bool v) = w2 at hh2 hM2 hk ⊢
    have hc2 := fun o => cellOf (o := o) hh2
    have hf2 := fun o => frozenOf (o := o) hh2
    unfold msgC at hc2
    refine ⟨fok95, wMust_cps _ _ _ (fun ht => .inl ⟨_, rfl, hold_ops okT (rs := []) rfl ?_⟩) (fun ht => .inr ⟨_, rfl, hold_ex okT (rs := []) rfl ?_⟩)⟩
    · have hv2 : v = decide (l.length + 1 = 2) := by
        have : decide (((l.length + 1 : Nat) : Int) = 2) = decide (l.length + 1 = 2) := by rw [decide_eq_decide]; omega
        rw [this] at ht
        revert ht
        cases v <;> cases decide (l.length + 1 = 2) <;> simp [beq2, bnot]
      rw [if_pos hv2] at hX
      cases v
      · simp only [Bool.false_eq_true, if_false] at hX
        simp (config := { maxSteps := 1000000 }) (disch := first | omega | (simp only [sizeAlloc, sizeDrew, sizeSet, sizePut] <;> omega) | fail) only [GS1, GS2, GS3, GS4, GS5, GS6, GS7, GS8, GS9, GS10, GS11, TT_eq, TTl, Nat.reduceAdd, Nat.reduceMul, Nat.reduceSub, Nat.reduceDiv, Nat.reduceMod, Nat.reducePow, Nat.reduceEqDiff, ↓reduceIte, reduceCtorEq, true_and, and_true, and_self, false_and, and_false, Int.reduceToNat, Int.reduceAdd, Int.reduceSub, Int.reduceMul, cond_true, cond_false, List.toList_toArray, Option.map_some, Option.map_none, Option.some.injEq, List.cons_append, List.nil_append, List.length_cons, List.length_nil, List.getD_cons_zero, List.getD_cons_succ, hc2, hf2]
        refine h1 _ _ _ hX.symm ?_ hM2
        rw [hh2]
        unfold msgC
        rw [htag]
      · simp only [if_true] at hX
        have h2 := of_decide_eq_true hv2.symm
        obtain ⟨t1, rfl⟩ : ∃ t1, l = [t1] := by
          match l, h2 with
          | [t1], _ => exact ⟨t1, rfl⟩
        have f1 : w2.cell? ⟨b2, o2 + 1, none⟩ = some (.string ⟨t1.toArray⟩) := hk _ _ (cellM (g2 1 _ rfl) hM)
        simp (config := { maxSteps := 1000000 }) (disch := first | omega | (simp only [sizeAlloc, sizeDrew, sizeSet, sizePut] <;> omega) | fail) only [GS1, GS2, GS3, GS4, GS5, GS6, GS7, GS8, GS9, GS10, GS11, TT_eq, TTl, Nat.reduceAdd, Nat.reduceMul, Nat.reduceSub, Nat.reduceDiv, Nat.reduceMod, Nat.reducePow, Nat.reduceEqDiff, ↓reduceIte, reduceCtorEq, true_and, and_true, and_self, false_and, and_false, Int.reduceToNat, Int.reduceAdd, Int.reduceSub, Int.reduceMul, cond_true, cond_false, List.toList_toArray, Option.map_some, Option.map_none, Option.some.injEq, List.cons_append, List.nil_append, List.length_cons, List.length_nil, List.getD_cons_zero, List.getD_cons_succ, hc2, hf2, f1]
        refine h1 _ _ _ hX.symm ?_ (hM2.set (p := ⟨p, 8, none⟩) (.inl (by simp)) _)
        rw [heapSet hh2]
        rfl
    · have hv2 : ¬ v = decide (l.length + 1 = 2) := by
        have : decide (((l.length + 1 : Nat) : Int) = 2) = decide (l.length + 1 = 2) := by rw [decide_eq_decide]; omega
        rw [this] at ht
        revert ht
        cases v <;> cases decide (l.length + 1 = 2) <;> simp [beq2, bnot]
      rw [if_neg hv2] at hX
      simp (config := { maxSteps := 1000000 }) (disch := first | omega | (simp only [sizeAlloc, sizeDrew, sizeSet, sizePut] <;> omega) | fail) only [GS1, GS2, GS3, GS4, GS5, GS6, GS7, GS8, GS9, GS10, GS11, TT_eq, TTl, Nat.reduceAdd, Nat.reduceMul, Nat.reduceSub, Nat.reduceDiv, Nat.reduceMod, Nat.reducePow, Nat.reduceEqDiff, ↓reduceIte, reduceCtorEq, true_and, and_true, and_self, false_and, and_false, Int.reduceToNat, Int.reduceAdd, Int.reduceSub, Int.reduceMul, cond_true, cond_false, List.toList_toArray, Option.map_some, Option.map_none, Option.some.injEq, List.cons_append, List.nil_append, List.length_cons, List.length_nil, List.getD_cons_zero, List.getD_cons_succ]
      exact hN hX.symm _ hM2
  · rw [hv] at hX
    simp (config := { maxSteps := 1000000 }) (disch := first | omega | (simp only [sizeAlloc, sizeDrew, sizeSet, sizePut] <;> omega) | fail) only [GS1, GS2, GS3, GS4, GS5, GS6, GS7, GS8, GS9, GS10, GS11, TT_eq, TTl, Nat.reduceAdd, Nat.reduceMul, Nat.reduceSub, Nat.reduceDiv, Nat.reduceMod, Nat.reducePow, Nat.reduceEqDiff, ↓reduceIte, reduceCtorEq, true_and, and_true, and_self, false_and, and_false, Int.reduceToNat, Int.reduceAdd, Int.reduceSub, Int.reduceMul, cond_true, cond_false, List.toList_toArray, Option.map_some, Option.map_none, Option.some.injEq, List.cons_append, List.nil_append, List.length_cons, List.length_nil, List.getD_cons_zero, List.getD_cons_succ]
    exact hN hX.symm _ (hM.mono (by simp))
end Go.Proofs.Ytpcilobbohokcaa
