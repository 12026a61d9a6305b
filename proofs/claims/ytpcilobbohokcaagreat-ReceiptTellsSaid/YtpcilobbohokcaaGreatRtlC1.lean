/-
  receipt: must, made, number, row; what is bad; Check (walks). A map's entry that is there already is written again. receipt.try (walk).
-/
import Derived.Test.YtpcilobbohokcaaGreatRtlW2
import Derived.Test.YtpcilobbohokcaaGreatRtlMpr
set_option linter.unusedSimpArgs false
set_option linter.unusedVariables false
set_option maxRecDepth 20000
namespace Go.Proofs.YtpcilobbohokcaaGreat
open Go Go.Wk Go.RowKit
attribute [local irreducible] go Hold
open Go.Lib
def rwV (e : Int) : List PanicEntry := [{ v := .iface 146 (.agg #[.int .i64 e]), recovered := false }]
theorem eMust_cps (b : Bool) (e : Int) (w : World) (R : Ending → World → Prop) (h1 : b = true → R (.returned (.tuple #[])) w) (h0 : b = false → R (.panicked (rwV e)) w) : Calls Tryz.prog 127 #[.bool b, .int .i64 e] w R := by
  refine calls_go 4000 okT Tryz.func127 rfl (rs := []) rfl Tryz.ntmps127 (args := [.bool b, .int .i64 e]) ?_
  cases b
  · simp (maxSteps := 1000000) (disch := first | omega | (simp only [sizeAlloc, sizeDrew, sizeSet, sizePut] <;> omega) | fail) only [GS, TT_eq, TTl, Nat.reduceAdd, Nat.reduceMul, Nat.reduceSub, Nat.reduceDiv, Nat.reduceMod, Nat.reducePow, Nat.reduceEqDiff, ↓reduceIte, reduceCtorEq, Int.reduceToNat, Int.reduceAdd, Int.reduceSub, Int.reduceMul]
    unfold panW
    refine hold_ex okT (rs := []) rfl ?_
    simp (maxSteps := 1000000) (disch := first | omega | (simp only [sizeAlloc, sizeDrew, sizeSet, sizePut] <;> omega) | fail) only [GS, TT_eq, TTl, Nat.reduceAdd, Nat.reduceMul, Nat.reduceSub, Nat.reduceDiv, Nat.reduceMod, Nat.reducePow, Nat.reduceEqDiff, ↓reduceIte, reduceCtorEq, Int.reduceToNat, Int.reduceAdd, Int.reduceSub, Int.reduceMul]
    exact h0 rfl
  · simp (maxSteps := 1000000) (disch := first | omega | (simp only [sizeAlloc, sizeDrew, sizeSet, sizePut] <;> omega) | fail) only [GS, TT_eq, TTl, Nat.reduceAdd, Nat.reduceMul, Nat.reduceSub, Nat.reduceDiv, Nat.reduceMod, Nat.reducePow, Nat.reduceEqDiff, ↓reduceIte, reduceCtorEq, Int.reduceToNat, Int.reduceAdd, Int.reduceSub, Int.reduceMul]
    exact h1 rfl
theorem eMade_cps (t : List UInt8) (e : Int) (w : World) (R : Ending → World → Prop) (h1 : e = 0 → R (.returned (.string ⟨t.toArray⟩)) w) (h0 : e ≠ 0 → R (.panicked (rwV 5)) w) : Calls Tryz.prog 100 #[.string ⟨t.toArray⟩, .int .i64 e] w R := by
  refine calls_go 4000 okT Tryz.func100 rfl (rs := [.tmp 4]) rfl Tryz.ntmps100 (args := [.string ⟨t.toArray⟩, .int .i64 e]) ?_
  by_cases he : e = 0
  · subst he
    simp (maxSteps := 1000000) (disch := first | omega | (simp only [sizeAlloc, sizeDrew, sizeSet, sizePut] <;> omega) | fail) only [GS, TT_eq, TTl, Nat.reduceAdd, Nat.reduceMul, Nat.reduceSub, Nat.reduceDiv, Nat.reduceMod, Nat.reducePow, Nat.reduceEqDiff, ↓reduceIte, reduceCtorEq, Int.reduceToNat, Int.reduceAdd, Int.reduceSub, Int.reduceMul]
    refine ⟨fok127, eMust_cps true 5 _ _ (fun _ => .inl ⟨_, rfl, hold_ops okT (rs := [.tmp 4]) rfl ?_⟩) (fun h => absurd h (by simp))⟩
    simp (maxSteps := 1000000) (disch := first | omega | (simp only [sizeAlloc, sizeDrew, sizeSet, sizePut] <;> omega) | fail) only [GS, TT_eq, TTl, Nat.reduceAdd, Nat.reduceMul, Nat.reduceSub, Nat.reduceDiv, Nat.reduceMod, Nat.reducePow, Nat.reduceEqDiff, ↓reduceIte, reduceCtorEq, Int.reduceToNat, Int.reduceAdd, Int.reduceSub, Int.reduceMul]
    exact h1 rfl
  · simp (maxSteps := 1000000) (disch := first | omega | (simp only [sizeAlloc, sizeDrew, sizeSet, sizePut] <;> omega) | fail) only [GS, TT_eq, TTl, Nat.reduceAdd, Nat.reduceMul, Nat.reduceSub, Nat.reduceDiv, Nat.reduceMod, Nat.reducePow, Nat.reduceEqDiff, ↓reduceIte, reduceCtorEq, Int.reduceToNat, Int.reduceAdd, Int.reduceSub, Int.reduceMul, he]
    refine ⟨fok127, eMust_cps false 5 _ _ (fun h => absurd h (by simp)) (fun _ => .inr ⟨_, rfl, hold_ex okT (rs := [.tmp 4]) rfl ?_⟩)⟩
    simp (maxSteps := 1000000) (disch := first | omega | (simp only [sizeAlloc, sizeDrew, sizeSet, sizePut] <;> omega) | fail) only [GS, TT_eq, TTl, Nat.reduceAdd, Nat.reduceMul, Nat.reduceSub, Nat.reduceDiv, Nat.reduceMod, Nat.reducePow, Nat.reduceEqDiff, ↓reduceIte, reduceCtorEq, Int.reduceToNat, Int.reduceAdd, Int.reduceSub, Int.reduceMul]
    exact h0 he
theorem eNumber_cps (S : List UInt8) (hS : S.length ≤ maxLen) (w : World) (R : Ending → World → Prop) (h1 : ∀ v w', numT S = some v → Mod [] w w' → R (.returned (.int .i64 v)) w') (h0 : numT S = none → ∀ w', Mod [] w w' → R (.panicked (rwV 7)) w') : Calls Tryz.prog 129 #[.string ⟨S.toArray⟩] w R := by
  refine calls_go 4000 okT Tryz.func129 rfl (rs := [.tmp 2]) rfl Tryz.ntmps129 (args := [.string ⟨S.toArray⟩]) ?_
  simp (maxSteps := 1000000) (disch := first | omega | (simp only [sizeAlloc, sizeDrew, sizeSet, sizePut] <;> omega) | fail) only [GS, TT_eq, TTl, Nat.reduceAdd, Nat.reduceMul, Nat.reduceSub, Nat.reduceDiv, Nat.reduceMod, Nat.reducePow, Nat.reduceEqDiff, ↓reduceIte, reduceCtorEq, Int.reduceToNat, Int.reduceAdd, Int.reduceSub, Int.reduceMul]
  refine ⟨fok164, tReadNum_cps S hS _ _ fun w1 hM => .inl ⟨_, rfl, hold_ops okT (rs := [.tmp 2]) rfl ?_⟩⟩
  cases hn : numT S with
  | none =>
    unfold nuV
    simp (maxSteps := 1000000) (disch := first | omega | (simp only [sizeAlloc, sizeDrew, sizeSet, sizePut] <;> omega) | fail) only [GS, TT_eq, TTl, Nat.reduceAdd, Nat.reduceMul, Nat.reduceSub, Nat.reduceDiv, Nat.reduceMod, Nat.reducePow, Nat.reduceEqDiff, ↓reduceIte, reduceCtorEq, Int.reduceToNat, Int.reduceAdd, Int.reduceSub, Int.reduceMul]
    refine ⟨fok127, eMust_cps false 7 _ _ (fun h => absurd h (by simp)) (fun _ => .inr ⟨_, rfl, hold_ex okT (rs := [.tmp 2]) rfl ?_⟩)⟩
    simp (maxSteps := 1000000) (disch := first | omega | (simp only [sizeAlloc, sizeDrew, sizeSet, sizePut] <;> omega) | fail) only [GS, TT_eq, TTl, Nat.reduceAdd, Nat.reduceMul, Nat.reduceSub, Nat.reduceDiv, Nat.reduceMod, Nat.reducePow, Nat.reduceEqDiff, ↓reduceIte, reduceCtorEq, Int.reduceToNat, Int.reduceAdd, Int.reduceSub, Int.reduceMul]
    exact h0 hn _ hM
  | some v =>
    unfold nuV
    simp (maxSteps := 1000000) (disch := first | omega | (simp only [sizeAlloc, sizeDrew, sizeSet, sizePut] <;> omega) | fail) only [GS, TT_eq, TTl, Nat.reduceAdd, Nat.reduceMul, Nat.reduceSub, Nat.reduceDiv, Nat.reduceMod, Nat.reducePow, Nat.reduceEqDiff, ↓reduceIte, reduceCtorEq, Int.reduceToNat, Int.reduceAdd, Int.reduceSub, Int.reduceMul]
    refine ⟨fok127, eMust_cps true 7 _ _ (fun _ => .inl ⟨_, rfl, hold_ops okT (rs := [.tmp 2]) rfl ?_⟩) (fun h => absurd h (by simp))⟩
    simp (maxSteps := 1000000) (disch := first | omega | (simp only [sizeAlloc, sizeDrew, sizeSet, sizePut] <;> omega) | fail) only [GS, TT_eq, TTl, Nat.reduceAdd, Nat.reduceMul, Nat.reduceSub, Nat.reduceDiv, Nat.reduceMod, Nat.reducePow, Nat.reduceEqDiff, ↓reduceIte, reduceCtorEq, Int.reduceToNat, Int.reduceAdd, Int.reduceSub, Int.reduceMul]
    exact h1 v _ hn hM
/-- The parts of a row of so many, or of any number. -/
def rowR (S : List UInt8) (n : Int) : Option (List (List UInt8)) := if kindS S = 3 ∧ (n < 0 ∨ ((partsS S).length : Int) = n) then some (partsS S) else none
theorem kind_0 {S : List UInt8} (h : checkS S ≠ 0) : kindS S = 0 := by unfold kindS; rw [if_neg h]
set_option maxHeartbeats 4000000 in
theorem eRow_cps (S : List UInt8) (n : Int) (hn1 : -1 ≤ n) (hn : n ≤ 100) (hS : S.length ≤ maxLen) (w : World) (R : Ending → World → Prop) (h1 : ∀ l sv w', rowR S n = some l → w'.ownsRow w.heap.size 9 1 sv l.length (l.map strV) → Mod [] w w' → R (.returned sv) w') (h0 : rowR S n = none → ∀ w', Mod [] w w' → R (.panicked (rwV 7)) w') :
    Calls Tryz.prog 128 #[.string ⟨S.toArray⟩, .int .i64 n] w R := by
  generalize hX : rowR S n = X at h1 h0
  unfold rowR at hX
  refine calls_go 4000 okT Tryz.func128 rfl (rs := [.tmp 4]) rfl Tryz.ntmps128 (args := [.string ⟨S.toArray⟩, .int .i64 n]) ?_
  simp (maxSteps := 1000000) (disch := first | omega | (simp only [sizeAlloc, sizeDrew, sizeSet, sizePut] <;> omega) | fail) only [GS, TT_eq, TTl, Nat.reduceAdd, Nat.reduceMul, Nat.reduceSub, Nat.reduceDiv, Nat.reduceMod, Nat.reducePow, Nat.reduceEqDiff, ↓reduceIte, reduceCtorEq, Int.reduceToNat, Int.reduceAdd, Int.reduceSub, Int.reduceMul]
  refine ⟨fok82, tParts_cps S hS _ _ (fun hc w1 hM1 => .inl ⟨_, rfl, hold_ops okT (rs := [.tmp 4]) rfl ?_⟩) (fun hc sv w1 hown hM1 => .inl ⟨_, rfl, hold_ops okT (rs := [.tmp 4]) rfl ?_⟩)⟩
  · have hk := kind_0 hc
    rw [if_neg (fun h => by omega)] at hX
    simp (maxSteps := 1000000) (disch := first | omega | (simp only [sizeAlloc, sizeDrew, sizeSet, sizePut] <;> omega) | fail) only [GS, TT_eq, TTl, Nat.reduceAdd, Nat.reduceMul, Nat.reduceSub, Nat.reduceDiv, Nat.reduceMod, Nat.reducePow, Nat.reduceEqDiff, ↓reduceIte, reduceCtorEq, Int.reduceToNat, Int.reduceAdd, Int.reduceSub, Int.reduceMul]
    refine ⟨fok159, tKind_cps S hS _ _ fun w2 hM2 => .inl ⟨_, rfl, hold_ops okT (rs := [.tmp 4]) rfl ?_⟩⟩
    rw [hk]
    simp (maxSteps := 1000000) (disch := first | omega | (simp only [sizeAlloc, sizeDrew, sizeSet, sizePut] <;> omega) | fail) only [GS, TT_eq, TTl, Nat.reduceAdd, Nat.reduceMul, Nat.reduceSub, Nat.reduceDiv, Nat.reduceMod, Nat.reducePow, Nat.reduceEqDiff, ↓reduceIte, reduceCtorEq, Int.reduceToNat, Int.reduceAdd, Int.reduceSub, Int.reduceMul]
    refine ⟨fok127, eMust_cps false 7 _ _ (fun h => absurd h (by simp)) (fun _ => .inr ⟨_, rfl, hold_ex okT (rs := [.tmp 4]) rfl ?_⟩)⟩
    simp (maxSteps := 1000000) (disch := first | omega | (simp only [sizeAlloc, sizeDrew, sizeSet, sizePut] <;> omega) | fail) only [GS, TT_eq, TTl, Nat.reduceAdd, Nat.reduceMul, Nat.reduceSub, Nat.reduceDiv, Nat.reduceMod, Nat.reducePow, Nat.reduceEqDiff, ↓reduceIte, reduceCtorEq, Int.reduceToNat, Int.reduceAdd, Int.reduceSub, Int.reduceMul]
    exact h0 hX.symm _ (hM1.trans hM2 (by simp))
  · have hpn := partsS_len S
    have hSl := (check0 hc).2.2.1
    obtain ⟨la, lc, rfl⟩ := (Rd.own hown).slice
    simp (maxSteps := 1000000) (disch := first | omega | (simp only [sizeAlloc, sizeDrew, sizeSet, sizePut] <;> omega) | fail) only [GS, TT_eq, TTl, Nat.reduceAdd, Nat.reduceMul, Nat.reduceSub, Nat.reduceDiv, Nat.reduceMod, Nat.reducePow, Nat.reduceEqDiff, ↓reduceIte, reduceCtorEq, Int.reduceToNat, Int.reduceAdd, Int.reduceSub, Int.reduceMul]
    refine ⟨fok159, tKind_cps S hS _ _ fun w2 hM2 => .inl ⟨_, rfl, hold_ops okT (rs := [.tmp 4]) rfl ?_⟩⟩
    have hM := hM1.trans hM2 (by simp)
    have hown2 := ownsRow_mod hown hM2 (by simp)
    by_cases hk : (kindS S : Int) = 3
    · by_cases hn0 : n < 0
      · rw [if_pos ⟨by omega, .inl hn0⟩] at hX
        simp (maxSteps := 1000000) (disch := first | omega | (simp only [sizeAlloc, sizeDrew, sizeSet, sizePut] <;> omega) | fail) only [GS, TT_eq, TTl, Nat.reduceAdd, Nat.reduceMul, Nat.reduceSub, Nat.reduceDiv, Nat.reduceMod, Nat.reducePow, Nat.reduceEqDiff, ↓reduceIte, reduceCtorEq, Int.reduceToNat, Int.reduceAdd, Int.reduceSub, Int.reduceMul, hk, hn0]
        refine ⟨fok127, eMust_cps true 7 _ _ (fun _ => .inl ⟨_, rfl, hold_ops okT (rs := [.tmp 4]) rfl ?_⟩) (fun h => absurd h (by simp))⟩
        simp (maxSteps := 1000000) (disch := first | omega | (simp only [sizeAlloc, sizeDrew, sizeSet, sizePut] <;> omega) | fail) only [GS, TT_eq, TTl, Nat.reduceAdd, Nat.reduceMul, Nat.reduceSub, Nat.reduceDiv, Nat.reduceMod, Nat.reducePow, Nat.reduceEqDiff, ↓reduceIte, reduceCtorEq, Int.reduceToNat, Int.reduceAdd, Int.reduceSub, Int.reduceMul]
        exact h1 _ _ _ hX.symm hown2 hM
      · by_cases h2 : (((partsS S).length : Nat) : Int) = n
        · rw [if_pos ⟨by omega, .inr h2⟩] at hX
          simp (maxSteps := 1000000) (disch := first | omega | (simp only [sizeAlloc, sizeDrew, sizeSet, sizePut] <;> omega) | fail) only [GS, TT_eq, TTl, Nat.reduceAdd, Nat.reduceMul, Nat.reduceSub, Nat.reduceDiv, Nat.reduceMod, Nat.reducePow, Nat.reduceEqDiff, ↓reduceIte, reduceCtorEq, Int.reduceToNat, Int.reduceAdd, Int.reduceSub, Int.reduceMul, hk, hn0, h2]
          refine ⟨fok127, eMust_cps true 7 _ _ (fun _ => .inl ⟨_, rfl, hold_ops okT (rs := [.tmp 4]) rfl ?_⟩) (fun h => absurd h (by simp))⟩
          simp (maxSteps := 1000000) (disch := first | omega | (simp only [sizeAlloc, sizeDrew, sizeSet, sizePut] <;> omega) | fail) only [GS, TT_eq, TTl, Nat.reduceAdd, Nat.reduceMul, Nat.reduceSub, Nat.reduceDiv, Nat.reduceMod, Nat.reducePow, Nat.reduceEqDiff, ↓reduceIte, reduceCtorEq, Int.reduceToNat, Int.reduceAdd, Int.reduceSub, Int.reduceMul]
          exact h1 _ _ _ hX.symm hown2 hM
        · rw [if_neg (fun h => by omega)] at hX
          simp (maxSteps := 1000000) (disch := first | omega | (simp only [sizeAlloc, sizeDrew, sizeSet, sizePut] <;> omega) | fail) only [GS, TT_eq, TTl, Nat.reduceAdd, Nat.reduceMul, Nat.reduceSub, Nat.reduceDiv, Nat.reduceMod, Nat.reducePow, Nat.reduceEqDiff, ↓reduceIte, reduceCtorEq, Int.reduceToNat, Int.reduceAdd, Int.reduceSub, Int.reduceMul, hk, hn0, h2]
          refine ⟨fok127, eMust_cps false 7 _ _ (fun h => absurd h (by simp)) (fun _ => .inr ⟨_, rfl, hold_ex okT (rs := [.tmp 4]) rfl ?_⟩)⟩
          simp (maxSteps := 1000000) (disch := first | omega | (simp only [sizeAlloc, sizeDrew, sizeSet, sizePut] <;> omega) | fail) only [GS, TT_eq, TTl, Nat.reduceAdd, Nat.reduceMul, Nat.reduceSub, Nat.reduceDiv, Nat.reduceMod, Nat.reducePow, Nat.reduceEqDiff, ↓reduceIte, reduceCtorEq, Int.reduceToNat, Int.reduceAdd, Int.reduceSub, Int.reduceMul]
          exact h0 hX.symm _ hM
    · rw [if_neg (fun h => hk (by have := h.1; omega))] at hX
      simp (maxSteps := 1000000) (disch := first | omega | (simp only [sizeAlloc, sizeDrew, sizeSet, sizePut] <;> omega) | fail) only [GS, TT_eq, TTl, Nat.reduceAdd, Nat.reduceMul, Nat.reduceSub, Nat.reduceDiv, Nat.reduceMod, Nat.reducePow, Nat.reduceEqDiff, ↓reduceIte, reduceCtorEq, Int.reduceToNat, Int.reduceAdd, Int.reduceSub, Int.reduceMul, hk]
      refine ⟨fok127, eMust_cps false 7 _ _ (fun h => absurd h (by simp)) (fun _ => .inr ⟨_, rfl, hold_ex okT (rs := [.tmp 4]) rfl ?_⟩)⟩
      simp (maxSteps := 1000000) (disch := first | omega | (simp only [sizeAlloc, sizeDrew, sizeSet, sizePut] <;> omega) | fail) only [GS, TT_eq, TTl, Nat.reduceAdd, Nat.reduceMul, Nat.reduceSub, Nat.reduceDiv, Nat.reduceMod, Nat.reducePow, Nat.reduceEqDiff, ↓reduceIte, reduceCtorEq, Int.reduceToNat, Int.reduceAdd, Int.reduceSub, Int.reduceMul]
      exact h0 hX.symm _ hM
theorem eBad_cps (s : List UInt8) (hs : s.length ≤ maxLen) (w : World) (R : Ending → World → Prop) (hR : ∀ w', Mod [] w w' → R (.returned (.bool (decide (¬ checkS s = 0)))) w') : Calls Tryz.prog 103 #[.string ⟨s.toArray⟩] w R := by
  refine calls_go 4000 okT Tryz.func103 rfl (rs := [.tmp 2]) rfl Tryz.ntmps103 (args := [.string ⟨s.toArray⟩]) ?_
  simp (maxSteps := 1000000) (disch := first | omega | (simp only [sizeAlloc, sizeDrew, sizeSet, sizePut] <;> omega) | fail) only [GS, TT_eq, TTl, Nat.reduceAdd, Nat.reduceMul, Nat.reduceSub, Nat.reduceDiv, Nat.reduceMod, Nat.reducePow, Nat.reduceEqDiff, ↓reduceIte, reduceCtorEq, Int.reduceToNat, Int.reduceAdd, Int.reduceSub, Int.reduceMul]
  refine ⟨fok104, tCheck_cps s hs _ _ fun w1 hM => .inl ⟨_, rfl, hold_ops okT (rs := [.tmp 2]) rfl ?_⟩⟩
  by_cases h : checkS s = 0
  · rw [decide_eq_false (fun g => g h)] at hR
    simp (maxSteps := 1000000) (disch := first | omega | (simp only [sizeAlloc, sizeDrew, sizeSet, sizePut] <;> omega) | fail) only [GS, TT_eq, TTl, Nat.reduceAdd, Nat.reduceMul, Nat.reduceSub, Nat.reduceDiv, Nat.reduceMod, Nat.reducePow, Nat.reduceEqDiff, ↓reduceIte, reduceCtorEq, Int.reduceToNat, Int.reduceAdd, Int.reduceSub, Int.reduceMul, h]
    exact hR _ hM
  · rw [decide_eq_true h] at hR
    simp (maxSteps := 1000000) (disch := first | omega | (simp only [sizeAlloc, sizeDrew, sizeSet, sizePut] <;> omega) | fail) only [GS, TT_eq, TTl, Nat.reduceAdd, Nat.reduceMul, Nat.reduceSub, Nat.reduceDiv, Nat.reduceMod, Nat.reducePow, Nat.reduceEqDiff, ↓reduceIte, reduceCtorEq, Int.reduceToNat, Int.reduceAdd, Int.reduceSub, Int.reduceMul, h]
    exact hR _ hM
set_option maxRecDepth 20000 in
set_option maxHeartbeats 4000000 in
theorem eIdx_cps (sa : Value) (xs : List (List UInt8)) (w : World) (R : Ending → World → Prop) (hx : xs.length ≤ 9223372036854775807) (hz : ∀ s ∈ xs, s.length ≤ maxLen) (ha : Rd w 1 sa xs.length (xs.map strV))
    (hR : ∀ i w', (0 ≤ i ↔ allS xs = false) → Mod [] w w' → R (.returned (.int .i64 i)) w') : Calls Tryz.prog 162 #[sa, .func (.func 103) #[] #[]] w R := by
  obtain ⟨a, ca, rfl⟩ := ha.slice
  refine calls_go 4000 okT Tryz.func162 rfl (rs := [.tmp 4]) rfl Tryz.ntmps162 (args := [.slice a xs.length ca, .func (.func 103) #[] #[]]) ?_
  simp (maxSteps := 1000000) (disch := first | omega | (simp only [sizeAlloc, sizeDrew, sizeSet, sizePut] <;> omega) | fail) only [GS, TT_eq, TTl, Nat.reduceAdd, Nat.reduceMul, Nat.reduceSub, Nat.reduceDiv, Nat.reduceMod, Nat.reducePow, Nat.reduceEqDiff, ↓reduceIte, reduceCtorEq, Int.reduceToNat, Int.reduceAdd, Int.reduceSub, Int.reduceMul]
  refine hold_loop okT (rs := [.tmp 4]) rfl [8] [4, 5, 9, 10, 11, 12, 13, 14, 15, 16, 17, 18] (fun vs w' => ∃ k : Nat, k ≤ xs.length ∧ vs = [.int .i64 k] ∧ Mod [] w w' ∧ ∀ s ∈ xs.take k, checkS s = 0) (fun vs _ => match vs with | [.int _ i] => xs.length - i.toNat | _ => 0) (by kernel_rfl) ⟨0, by omega, rfl, Mod.refl _ _, by simp⟩ ?_
  rintro vs w1 J ⟨k, hk, rfl, hM, hn⟩
  by_cases hlt : k < xs.length
  · obtain ⟨b1, o1, c1, e1, _, g1⟩ := (ha.mod hM (by simp)).at (by omega) (by omega)
    have f1 := g1 k _ (getS hlt)
    rw [Value.slice.injEq] at e1
    obtain ⟨rfl, -, -⟩ := e1
    have htk := List.take_succ_eq_append_getElem hlt
    have hmem := List.getElem_mem hlt
    generalize xs[k] = t at f1 htk hmem
    simp (maxSteps := 1000000) (disch := first | omega | (simp only [sizeAlloc, sizeDrew, sizeSet, sizePut] <;> omega) | fail) only [GS, TT_eq, TTl, Nat.reduceAdd, Nat.reduceMul, Nat.reduceSub, Nat.reduceDiv, Nat.reduceMod, Nat.reducePow, Nat.reduceEqDiff, ↓reduceIte, reduceCtorEq, Int.reduceToNat, Int.reduceAdd, Int.reduceSub, Int.reduceMul, f1]
    refine ⟨fok103, eBad_cps t (hz t hmem) _ _ fun w2 hM2 => .inl ⟨_, rfl, hold_ops okT (rs := [.tmp 4]) rfl ?_⟩⟩
    by_cases hc : checkS t = 0
    · simp (maxSteps := 1000000) (disch := first | omega | (simp only [sizeAlloc, sizeDrew, sizeSet, sizePut] <;> omega) | fail) only [GS, TT_eq, TTl, Nat.reduceAdd, Nat.reduceMul, Nat.reduceSub, Nat.reduceDiv, Nat.reduceMod, Nat.reducePow, Nat.reduceEqDiff, ↓reduceIte, reduceCtorEq, Int.reduceToNat, Int.reduceAdd, Int.reduceSub, Int.reduceMul, hc, not_true_eq_false, decide_false]
      refine ⟨⟨k + 1, by omega, rfl, hM.trans hM2 (by simp), ?_⟩, by omega⟩
      rw [htk]
      intro s hs
      rcases List.mem_append.1 hs with hs | hs
      · exact hn s hs
      · rw [List.mem_singleton.1 hs]; exact hc
    · simp (maxSteps := 1000000) (disch := first | omega | (simp only [sizeAlloc, sizeDrew, sizeSet, sizePut] <;> omega) | fail) only [GS, TT_eq, TTl, Nat.reduceAdd, Nat.reduceMul, Nat.reduceSub, Nat.reduceDiv, Nat.reduceMod, Nat.reducePow, Nat.reduceEqDiff, ↓reduceIte, reduceCtorEq, Int.reduceToNat, Int.reduceAdd, Int.reduceSub, Int.reduceMul, hc, not_false_eq_true, decide_true]
      refine hR k _ ⟨fun _ => ?_, fun _ => by omega⟩ (hM.trans hM2 (by simp))
      unfold allS
      rw [List.all_eq_false]
      exact ⟨t, hmem, by simpa using hc⟩
  · have e : k = xs.length := by omega
    subst e
    rw [List.take_length] at hn
    simp (maxSteps := 1000000) (disch := first | omega | (simp only [sizeAlloc, sizeDrew, sizeSet, sizePut] <;> omega) | fail) only [GS, TT_eq, TTl, Nat.reduceAdd, Nat.reduceMul, Nat.reduceSub, Nat.reduceDiv, Nat.reduceMod, Nat.reducePow, Nat.reduceEqDiff, ↓reduceIte, reduceCtorEq, Int.reduceToNat, Int.reduceAdd, Int.reduceSub, Int.reduceMul]
    refine hR (-1) _ ⟨fun h => by omega, fun h => ?_⟩ hM
    have : allS xs = true := by unfold allS; rw [List.all_eq_true]; intro s hs; simp [hn s hs]
    rw [this] at h
    simp at h
theorem eCont_cps (sa : Value) (xs : List (List UInt8)) (w : World) (R : Ending → World → Prop) (hx : xs.length ≤ 9223372036854775807) (hz : ∀ s ∈ xs, s.length ≤ maxLen) (ha : Rd w 1 sa xs.length (xs.map strV))
    (hR : ∀ w', Mod [] w w' → R (.returned (.bool (!allS xs))) w') : Calls Tryz.prog 105 #[sa, .func (.func 103) #[] #[]] w R := by
  refine calls_go 4000 okT Tryz.func105 rfl (rs := [.tmp 4]) rfl Tryz.ntmps105 (args := [sa, .func (.func 103) #[] #[]]) ?_
  simp (maxSteps := 1000000) (disch := first | omega | (simp only [sizeAlloc, sizeDrew, sizeSet, sizePut] <;> omega) | fail) only [GS, TT_eq, TTl, Nat.reduceAdd, Nat.reduceMul, Nat.reduceSub, Nat.reduceDiv, Nat.reduceMod, Nat.reducePow, Nat.reduceEqDiff, ↓reduceIte, reduceCtorEq, Int.reduceToNat, Int.reduceAdd, Int.reduceSub, Int.reduceMul]
  refine ⟨fok162, eIdx_cps sa xs _ _ hx hz ha fun i w1 hi hM => .inl ⟨_, rfl, hold_ops okT (rs := [.tmp 4]) rfl ?_⟩⟩
  cases hs : allS xs
  · have h0 : 0 ≤ i := hi.2 hs
    rw [hs] at hR
    simp (maxSteps := 1000000) (disch := first | omega | (simp only [sizeAlloc, sizeDrew, sizeSet, sizePut] <;> omega) | fail) only [GS, TT_eq, TTl, Nat.reduceAdd, Nat.reduceMul, Nat.reduceSub, Nat.reduceDiv, Nat.reduceMod, Nat.reducePow, Nat.reduceEqDiff, ↓reduceIte, reduceCtorEq, Int.reduceToNat, Int.reduceAdd, Int.reduceSub, Int.reduceMul, h0]
    exact hR _ hM
  · have h0 : ¬ 0 ≤ i := fun h => by have := hi.1 h; rw [hs] at this; simp at this
    rw [hs] at hR
    simp (maxSteps := 1000000) (disch := first | omega | (simp only [sizeAlloc, sizeDrew, sizeSet, sizePut] <;> omega) | fail) only [GS, TT_eq, TTl, Nat.reduceAdd, Nat.reduceMul, Nat.reduceSub, Nat.reduceDiv, Nat.reduceMod, Nat.reducePow, Nat.reduceEqDiff, ↓reduceIte, reduceCtorEq, Int.reduceToNat, Int.reduceAdd, Int.reduceSub, Int.reduceMul, h0]
    exact hR _ hM
/-- A receipt. -/
structure Rcp where
  tx : Tx
  aud : Int
  mbs : List Mb
  tags : List (List UInt8)
def rcC (r : Rcp) (sm st : Value) : List Value := [.int .i64 r.tx.1, .int .i64 r.tx.2.1, .int .i64 r.tx.2.2, .int .i64 r.aud, sm, st]
def rcV (r : Rcp) (sm st : Value) : Value := .agg (rcC r sm st).toArray
def mayR (r : Rcp) : Bool := txB r.tx && orgB r.aud && mbB r.tx.1 r.mbs && decide (r.tags.length = r.mbs.length) && allS r.tags
/-- What is known of a receipt that is read. -/
structure RcpIn (w : World) (r : Rcp) (sm st : Value) : Prop where
  aud : I64 r.aud
  mlen : r.mbs.length ≤ 1000000
  mdig : ∀ x ∈ r.mbs, x.2.length ≤ maxLen
  mrd : Rd w 2 sm r.mbs.length (r.mbs.flatMap mbC)
  tlen : r.tags.length ≤ 1000000
  tdig : ∀ x ∈ r.tags, x.length ≤ maxLen
  trd : Rd w 1 st r.tags.length (r.tags.map strV)
theorem RcpIn.mod {w w' : World} {r : Rcp} {sm st : Value} (h : RcpIn w r sm st) (hM : Mod [] w w') : RcpIn w' r sm st := ⟨h.aud, h.mlen, h.mdig, h.mrd.mod hM (by simp), h.tlen, h.tdig, h.trd.mod hM (by simp)⟩
set_option maxRecDepth 20000 in
set_option maxHeartbeats 8000000 in
theorem eCheck_cps (r : Rcp) (sm st : Value) (w : World) (hr : RcpIn w r sm st) (R : Ending → World → Prop) (hR : ∀ w', Mod [] w w' → R (.returned (.int .i64 (if mayR r = true then 0 else 2))) w') : Calls Tryz.prog 30 #[rcV r sm st] w R := by
  obtain ⟨haud, hml, hmd, hmr, htl, htd, htr⟩ := hr
  have hMT := wMayTxn_cps r.tx
  have hMM := wMayMembers_cps r.tx sm r.mbs
  have hCF := eCont_cps st r.tags
  unfold mayR at hR
  obtain ⟨⟨a, b, c⟩, aud, mbs, tags⟩ := r
  obtain ⟨pm, cm, rfl⟩ := hmr.slice
  obtain ⟨pt, ct, rfl⟩ := htr.slice
  unfold txV at hMT hMM
  unfold rcV rcC
  simp only at hR haud hml hmd hmr htl htd htr hMT hMM hCF ⊢
  refine calls_go 4000 okT Tryz.func30 rfl (rs := [.tmp 2]) rfl Tryz.ntmps30 (args := [.agg #[.int .i64 a, .int .i64 b, .int .i64 c, .int .i64 aud, .slice pm mbs.length cm, .slice pt tags.length ct]]) ?_
  simp (maxSteps := 1000000) (disch := first | omega | (simp only [sizeAlloc, sizeDrew, sizeSet, sizePut] <;> omega) | fail) only [GS, TT_eq, TTl, Nat.reduceAdd, Nat.reduceMul, Nat.reduceSub, Nat.reduceDiv, Nat.reduceMod, Nat.reducePow, Nat.reduceEqDiff, ↓reduceIte, reduceCtorEq, Int.reduceToNat, Int.reduceAdd, Int.reduceSub, Int.reduceMul]
  have hM0 := (Mod.refl [] w).alloc (.cells #[.int .i64 a, .int .i64 b, .int .i64 c, .int .i64 aud, .slice pm mbs.length cm, .slice pt tags.length ct] 28)
  have hA := heapNew (w := w) (o := (.cells #[.int .i64 a, .int .i64 b, .int .i64 c, .int .i64 aud, .slice pm mbs.length cm, .slice pt tags.length ct] 28))
  generalize w.alloc (.cells #[.int .i64 a, .int .i64 b, .int .i64 c, .int .i64 aud, .slice pm mbs.length cm, .slice pt tags.length ct] 28) = w1 at hM0 hA ⊢
  generalize hn : w.heap.size = n at *
  refine ⟨fok42, hMT _ _ fun w2 hM2 => .inl ⟨_, rfl, hold_ops okT (rs := [.tmp 2]) rfl ?_⟩⟩
  have hA2 := hM2.get hA (by simp)
  have c2 := fun o => cellOf (o := o) hA2
  have hM02 := hM0.trans hM2 (by simp)
  cases ht : txB (a, b, c)
  · simp only [ht, Bool.false_and, Bool.false_eq_true, if_false] at hR
    simp (maxSteps := 1000000) (disch := first | omega | (simp only [sizeAlloc, sizeDrew, sizeSet, sizePut] <;> omega) | fail) only [GS, TT_eq, TTl, Nat.reduceAdd, Nat.reduceMul, Nat.reduceSub, Nat.reduceDiv, Nat.reduceMod, Nat.reducePow, Nat.reduceEqDiff, ↓reduceIte, reduceCtorEq, Int.reduceToNat, Int.reduceAdd, Int.reduceSub, Int.reduceMul, c2]
    exact hR _ hM02
  by_cases h0 : aud < 0
  · have ho : orgB aud = false := by unfold orgB; exact decide_eq_false (by omega)
    simp only [ho, Bool.and_false, Bool.false_and, Bool.false_eq_true, if_false] at hR
    simp (maxSteps := 1000000) (disch := first | omega | (simp only [sizeAlloc, sizeDrew, sizeSet, sizePut] <;> omega) | fail) only [GS, TT_eq, TTl, Nat.reduceAdd, Nat.reduceMul, Nat.reduceSub, Nat.reduceDiv, Nat.reduceMod, Nat.reducePow, Nat.reduceEqDiff, ↓reduceIte, reduceCtorEq, Int.reduceToNat, Int.reduceAdd, Int.reduceSub, Int.reduceMul, c2, h0]
    exact hR _ hM02
  by_cases h8 : 8 ≤ aud
  · have ho : orgB aud = false := by unfold orgB; exact decide_eq_false (by omega)
    simp only [ho, Bool.and_false, Bool.false_and, Bool.false_eq_true, if_false] at hR
    simp (maxSteps := 1000000) (disch := first | omega | (simp only [sizeAlloc, sizeDrew, sizeSet, sizePut] <;> omega) | fail) only [GS, TT_eq, TTl, Nat.reduceAdd, Nat.reduceMul, Nat.reduceSub, Nat.reduceDiv, Nat.reduceMod, Nat.reducePow, Nat.reduceEqDiff, ↓reduceIte, reduceCtorEq, Int.reduceToNat, Int.reduceAdd, Int.reduceSub, Int.reduceMul, c2, h0, h8]
    exact hR _ hM02
  have ho : orgB aud = true := by unfold orgB; exact decide_eq_true (by omega)
  simp (maxSteps := 1000000) (disch := first | omega | (simp only [sizeAlloc, sizeDrew, sizeSet, sizePut] <;> omega) | fail) only [GS, TT_eq, TTl, Nat.reduceAdd, Nat.reduceMul, Nat.reduceSub, Nat.reduceDiv, Nat.reduceMod, Nat.reducePow, Nat.reduceEqDiff, ↓reduceIte, reduceCtorEq, Int.reduceToNat, Int.reduceAdd, Int.reduceSub, Int.reduceMul, c2, h0, h8]
  refine ⟨fok44, hMM _ _ hml hmd (hmr.mod hM02 (by simp)) fun w3 hM3 => .inl ⟨_, rfl, hold_ops okT (rs := [.tmp 2]) rfl ?_⟩⟩
  have hA3 := hM3.get hA2 (by simp)
  have c3 := fun o => cellOf (o := o) hA3
  have hM03 := hM02.trans hM3 (by simp)
  cases hm : mbB a mbs
  · simp only [hm, Bool.and_false, Bool.false_and, Bool.false_eq_true, if_false] at hR
    simp (maxSteps := 1000000) (disch := first | omega | (simp only [sizeAlloc, sizeDrew, sizeSet, sizePut] <;> omega) | fail) only [GS, TT_eq, TTl, Nat.reduceAdd, Nat.reduceMul, Nat.reduceSub, Nat.reduceDiv, Nat.reduceMod, Nat.reducePow, Nat.reduceEqDiff, ↓reduceIte, reduceCtorEq, Int.reduceToNat, Int.reduceAdd, Int.reduceSub, Int.reduceMul, c3]
    exact hR _ hM03
  by_cases hl : ((tags.length : Nat) : Int) = ((mbs.length : Nat) : Int)
  rotate_left
  · rw [decide_eq_false (fun h => hl (by omega))] at hR
    simp only [Bool.and_false, Bool.false_and, Bool.false_eq_true, if_false] at hR
    simp (maxSteps := 1000000) (disch := first | omega | (simp only [sizeAlloc, sizeDrew, sizeSet, sizePut] <;> omega) | fail) only [GS, TT_eq, TTl, Nat.reduceAdd, Nat.reduceMul, Nat.reduceSub, Nat.reduceDiv, Nat.reduceMod, Nat.reducePow, Nat.reduceEqDiff, ↓reduceIte, reduceCtorEq, Int.reduceToNat, Int.reduceAdd, Int.reduceSub, Int.reduceMul, c3, hl]
    exact hR _ hM03
  rw [decide_eq_true (show tags.length = mbs.length by omega)] at hR
  simp (maxSteps := 1000000) (disch := first | omega | (simp only [sizeAlloc, sizeDrew, sizeSet, sizePut] <;> omega) | fail) only [GS, TT_eq, TTl, Nat.reduceAdd, Nat.reduceMul, Nat.reduceSub, Nat.reduceDiv, Nat.reduceMod, Nat.reducePow, Nat.reduceEqDiff, ↓reduceIte, reduceCtorEq, Int.reduceToNat, Int.reduceAdd, Int.reduceSub, Int.reduceMul, c3, hl]
  refine ⟨fok105, hCF _ _ (by omega) htd (htr.mod hM03 (by simp)) fun w4 hM4 => .inl ⟨_, rfl, hold_ops okT (rs := [.tmp 2]) rfl ?_⟩⟩
  have hM04 := hM03.trans hM4 (by simp)
  cases hs : allS tags
  · simp only [hs, Bool.and_false, Bool.false_eq_true, if_false] at hR
    simp (maxSteps := 1000000) (disch := first | omega | (simp only [sizeAlloc, sizeDrew, sizeSet, sizePut] <;> omega) | fail) only [GS, TT_eq, TTl, Nat.reduceAdd, Nat.reduceMul, Nat.reduceSub, Nat.reduceDiv, Nat.reduceMod, Nat.reducePow, Nat.reduceEqDiff, ↓reduceIte, reduceCtorEq, Int.reduceToNat, Int.reduceAdd, Int.reduceSub, Int.reduceMul, Bool.not_false]
    exact hR _ hM04
  · simp only [ht, ho, hm, hs, Bool.and_true, if_true] at hR
    simp (maxSteps := 1000000) (disch := first | omega | (simp only [sizeAlloc, sizeDrew, sizeSet, sizePut] <;> omega) | fail) only [GS, TT_eq, TTl, Nat.reduceAdd, Nat.reduceMul, Nat.reduceSub, Nat.reduceDiv, Nat.reduceMod, Nat.reducePow, Nat.reduceEqDiff, ↓reduceIte, reduceCtorEq, Int.reduceToNat, Int.reduceAdd, Int.reduceSub, Int.reduceMul, Bool.not_true]
    exact hR _ hM04
end Go.Proofs.YtpcilobbohokcaaGreat
set_option linter.unusedSimpArgs false
set_option linter.unusedVariables false
set_option maxRecDepth 20000
namespace Go.Proofs.YtpcilobbohokcaaGreat
open Go Go.Wk Go.RowKit
attribute [local irreducible] go Hold
open Go.Lib
theorem keysB_all {k : K} : ∀ (l : List Value), keysB k l = true → ∀ x ∈ l, keyB k x = true
  | [], _, x, hx => by simp at hx
  | y :: l, h, x, hx => by
    simp only [keysB] at h
    cases hk : keyB k y with
    | false => rw [hk] at h; simp at h
    | true =>
      rw [hk] at h
      simp only [cond_true] at h
      rcases List.mem_cons.1 hx with rfl | hx
      · exact hk
      · exact keysB_all l h x hx
theorem update_run {P : Program} {T : Tab} (hP : Ok P T) {w : World} {r t kt et clock : Nat} {es : Array MapEntry} {ik : IntKind} {n : Int} {v : Value} {j : Nat} {e : MapEntry} (hk : kOf T t = .map kt et) (hb : w.heap[r]? = some (.map es clock)) (hi : keyB (kOf T kt) (.int ik n) = true)
    (hf : Instr.findNow (descK (kOf T kt)) (.int ik n) es.toList 0 = some (some (j, e.val))) (hj : es.toList[j]? = some e) (he : e.key = .int ik n) :
    (Instr.mapUpdate t (.map (some r)) (.int ik n) v).run P w = .ok () (w.putObj r (.map (es.modify j fun e => { e with key := .int ik n, val := v }) clock)) := by
  have hu : P.underlying t = some (.map kt et) := by have := kOk_of hP hk (by simp); exact this
  have hd := under_key hP hi
  have hj' : es[j]? = some e := by rw [← Array.getElem?_toList]; exact hj
  have hs : ((es[j]?).map (·.key)).getD (.int ik n) = .int ik n := by rw [hj']; exact he
  have hsb : Instr.sameBits 10000 (.int ik n) (.int ik n) = true := by simp [Instr.sameBits]
  have hkt : (Instr.keyThatStays (((es[j]?).map (·.key)).getD (.int ik n)) (.int ik n)).run P w = .ok (.int ik n) w := by
    rw [hs]
    unfold Instr.keyThatStays
    rw [if_pos hsb]
    rfl
  simp [Instr.mapUpdate, run_underlying hu, MapKept.run_getObj_map hb, MapKept.run_checkKey hd (isKey_of hi), MapKept.run_findKey hd hf, hkt, MapKept.run_setObj_map _ hb, Result.andThen, World.putObj]
theorem modify_list {α : Type} (f : α → α) : ∀ (l : List α) (j : Nat) (e : α), l[j]? = some e → l.modify j f = l.set j (f e)
  | [], j, e, h => by simp at h
  | x :: l, 0, e, h => by simp at h; subst h; rfl
  | x :: l, j + 1, e, h => by
    simp only [List.getElem?_cons_succ] at h
    have := modify_list f l j e h
    simp [List.modify_succ_cons, this]
theorem map_set_same {α β : Type} (f : α → β) : ∀ (l : List α) (j : Nat) (e y : α), l[j]? = some e → f y = f e → (l.set j y).map f = l.map f
  | [], j, e, y, h, _ => by simp at h
  | x :: l, 0, e, y, h, hf => by simp at h; subst h; simp [hf]
  | x :: l, j + 1, e, y, h, hf => by
    simp only [List.getElem?_cons_succ] at h
    have := map_set_same f l j e y h hf
    simp [this]
/-- 'm[i] = v' of a key that the map has. -/
theorem hold_updateW {P : Program} {T : Tab} (hP : Ok P T) {V : Env} {R : Ending → World → Prop} {F : Exit → Act → World → Prop} {all rest : List Oper} {o : Oper} {k : List KI} {fs : List Value} {w : World} {t kt et r : Nat} {m x y : Operand} {ik : IntKind} {n : Int} {v : Value} {l : List (Value × Value)}
    (ho : o.op = .mapUpdate t m x y) (hk : kOf T t = .map kt et) (hm : ev fs m = .map (some r)) (hx : ev fs x = .int ik n) (hy : ev fs y = v) (hl : MapW w r l) (hi : keyB (kOf T kt) (.int ik n) = true) (hks : keysB (kOf T kt) (l.map (·.1)) = true) (hyes : mfind (.int ik n) l ≠ none)
    (h : ∀ j u w', l[j]? = some (.int ik n, u) → MapW w' r (l.set j (.int ik n, v)) → Mod [r] w w' → Hold P T V R F (.ops all rest) k (put fs o.dst undef) w') : Hold P T V R F (.gop .run all o rest) k fs w := by
  obtain ⟨es, c, h1, rfl, h3, h4⟩ := hl
  have hall : ∀ x ∈ es.toList, MapKept.IsKey (descK (kOf T kt)) x.key := fun x hx => isKey_of (keysB_all _ hks x.key (by
    unfold entriesOf
    rw [List.map_map]
    exact List.mem_map.2 ⟨x, hx, rfl⟩))
  rcases MapKept.findNow_spec (isKey_of hi) es.toList 0 hall with ⟨hf, _⟩ | ⟨j, e, hf, hj, he⟩
  · have := find_m hi es.toList 0 hks
    unfold entriesOf at hyes
    cases hq : mfind (.int ik n) (es.toList.map fun e => (e.key, e.val)) with
    | none => exact absurd hq hyes
    | some u =>
      rw [hq] at this
      simp only at this
      obtain ⟨j, hj⟩ := this
      rw [hf] at hj
      simp at hj
  · rw [Nat.zero_add] at hf
    have hml : (es.modify j fun e => { e with key := .int ik n, val := v }).toList = es.toList.set j { e with key := .int ik n, val := v } := by
      rw [Array.toList_modify]
      exact modify_list _ _ _ _ hj
    have hmw : MapW (w.putObj r (.map (es.modify j fun e => { e with key := .int ik n, val := v }) c)) r ((entriesOf es).set j (.int ik n, v)) := by
      refine ⟨_, c, heapPe h1, ?_, ?_, ?_⟩
      · unfold entriesOf
        rw [hml, List.map_set]
      · intro x hx
        rw [hml] at hx
        rcases List.mem_or_eq_of_mem_set hx with hx | rfl
        · exact h3 x hx
        · exact h3 e (List.mem_of_getElem? hj)
      · rw [hml, map_set_same (fun x : MapEntry => x.born) es.toList j e { e with key := .int ik n, val := v } hj rfl]
        exact h4
    refine hold_skip (w' := w.putObj r (.map (es.modify j fun e => { e with key := .int ik n, val := v }) c)) (fun c => by rw [ho]; simp) ?_ (h j e.val _ ?_ hmw ((Mod.refl _ _).put (.inl (by simp)) _))
    · have hrun := update_run hP (v := v) hk h1 hi hf hj he
      obtain ⟨dst, op, ty, pos, aft, g⟩ := o
      simp only at ho; subst ho
      simp only [execOp, ev_eq, hm, hx, hy, Sem.run_bind, hrun, Result.andThen_ok, Sem.run_pure]
    · unfold entriesOf
      rw [List.getElem?_map, hj, ← he]
      rfl
end Go.Proofs.YtpcilobbohokcaaGreat
set_option linter.unusedSimpArgs false
set_option linter.unusedVariables false
set_option maxRecDepth 20000
namespace Go.Proofs.YtpcilobbohokcaaGreat
open Go Go.Wk Go.RowKit
attribute [local irreducible] go Hold
open Go.Lib
theorem etryD_ret (p : Value) (w : World) (R : Ending → FrameMode → World → Prop) (hR : R (.returned (.tuple #[])) .returning w) :
    CallsR Tryz.prog 126 #[p] .returning w R := by
  refine callsDIn_of_wpSIn Tryz.func126 rfl (by trivial) fun c₀ cs hu => ?_
  apply wpSIn_seq
  apply wpSIn_region
  simp [wpOpsSIn, go_sem, recoverD, hu, Tryz.ntmps126, Exit.thenS]
  have e : c₀ = { c₀ with mode := .returning } := by cases c₀; simp only at hu; subst hu; rfl
  rw [e]
  refine wpS_go (fs := [p, .nilIface, undef, undef, .nilIface, undef, undef, undef, undef, undef, undef, undef, undef, undef, undef, undef, undef]) okT (rs := []) rfl ?_
  simp (maxSteps := 1000000) (disch := first | omega | (simp only [sizeAlloc, sizeDrew, sizeSet, sizePut] <;> omega) | fail) only [GS, TT_eq, TTl, Nat.reduceAdd, Nat.reduceMul, Nat.reduceSub, Nat.reduceDiv, Nat.reduceMod, Nat.reducePow, Nat.reduceEqDiff, ↓reduceIte, reduceCtorEq, Int.reduceToNat, Int.reduceAdd, Int.reduceSub, Int.reduceMul]
  unfold recEnd
  simp (maxSteps := 1000000) (disch := first | omega | (simp only [sizeAlloc, sizeDrew, sizeSet, sizePut] <;> omega) | fail) only [GS, TT_eq, TTl, Nat.reduceAdd, Nat.reduceMul, Nat.reduceSub, Nat.reduceDiv, Nat.reduceMod, Nat.reducePow, Nat.reduceEqDiff, ↓reduceIte, reduceCtorEq, Int.reduceToNat, Int.reduceAdd, Int.reduceSub, Int.reduceMul]
  exact hR
def rwD (e : Int) : List PanicEntry := [{ v := .iface 146 (.agg #[.int .i64 e]), recovered := true }]
set_option maxHeartbeats 2000000 in
theorem etryD_pan (e : Int) (a : Nat) (x : Value) (ta : Nat) (w : World) (hA : w.heap[a]? = some (.cells #[x] ta (0, 0))) (R : Ending → FrameMode → World → Prop)
    (hR : ∀ w', w'.heap[a]? = some (.cells #[.int .i64 e] ta (0, 0)) → Mod [a] w w' → R (.returned (.tuple #[])) (.panicking (rwD e)) w') :
    CallsR Tryz.prog 126 #[.pointer (some ⟨a, 0, none⟩)] (.panicking (rwV e)) w R := by
  refine callsDIn_of_wpSIn Tryz.func126 rfl (by trivial) fun c₀ cs hu => ?_
  apply wpSIn_seq
  apply wpSIn_region
  unfold rwV at hu
  simp [wpOpsSIn, go_sem, recoverD, hu, Tryz.ntmps126, Exit.thenS]
  refine wpS_go (u := .panicking (rwD e)) (fs := [.pointer (some ⟨a, 0, none⟩), .iface 146 (.agg #[.int .i64 e]), undef, undef, .iface 146 (.agg #[.int .i64 e]), undef, undef, undef, undef, undef, undef, undef, undef, undef, undef, undef, undef]) okT (rs := []) rfl ?_
  have hA1 : (w.alloc (.cells #[.int .i64 0] 146)).heap[a]? = _ := heapAlloc hA
  have hca : (w.alloc (.cells #[.int .i64 0] 146)).cell? ⟨a, 0, none⟩ = some x := by rw [cellOf hA1]; rfl
  have hfa := frozenOf (o := 0) hA1
  have hal := (Array.getElem?_eq_some_iff.1 hA).1
  have hA2 : ((w.alloc (.cells #[.int .i64 0] 146)).setCell ⟨w.heap.size, 0, none⟩ (.int .i64 e)).heap[a]? = _ := heapSetNe hA1 (by omega)
  have hca2 : ((w.alloc (.cells #[.int .i64 0] 146)).setCell ⟨w.heap.size, 0, none⟩ (.int .i64 e)).cell? ⟨a, 0, none⟩ = some x := by rw [cellOf hA2]; rfl
  simp (maxSteps := 1000000) (disch := first | omega | (simp only [sizeAlloc, sizeDrew, sizeSet, sizePut] <;> omega) | fail) only [GS, TT_eq, TTl, Nat.reduceAdd, Nat.reduceMul, Nat.reduceSub, Nat.reduceDiv, Nat.reduceMod, Nat.reducePow, Nat.reduceEqDiff, ↓reduceIte, reduceCtorEq, Int.reduceToNat, Int.reduceAdd, Int.reduceSub, Int.reduceMul, hca, hfa, hca2]
  unfold recEnd
  simp (maxSteps := 1000000) (disch := first | omega | (simp only [sizeAlloc, sizeDrew, sizeSet, sizePut] <;> omega) | fail) only [GS, TT_eq, TTl, Nat.reduceAdd, Nat.reduceMul, Nat.reduceSub, Nat.reduceDiv, Nat.reduceMod, Nat.reducePow, Nat.reduceEqDiff, ↓reduceIte, reduceCtorEq, Int.reduceToNat, Int.reduceAdd, Int.reduceSub, Int.reduceMul]
  exact hR _ (heapSet hA2) ((((Mod.refl [a] w).alloc _).set (p := ⟨w.heap.size, 0, none⟩) (.inr (Nat.le_refl _)) _).set (p := ⟨a, 0, none⟩) (.inl (by simp)) _)
set_option maxHeartbeats 4000000 in
theorem eTry_cps (g : Nat) (cap : Array Value) (hg : FOk Tryz.prog g) (w : World) (R : Ending → World → Prop) (A : World → Prop) (B : Int → World → Prop)
    (hdo : Calls Tryz.prog g cap (w.alloc (.cells #[.int .i64 0] 29)) (fun e w' => (e = .returned (.tuple #[]) ∧ A w' ∨ (∃ c, e = .panicked (rwV c) ∧ B c w')) ∧ w'.heap[w.heap.size]? = some (.cells #[.int .i64 0] 29 (0, 0)) ∧ w.heap.size + 1 ≤ w'.heap.size))
    (hA : ∀ w1 w2, A w1 → Mod [w.heap.size] w1 w2 → R (.returned (.int .i64 0)) w2) (hB : ∀ c w1 w2, B c w1 → Mod [w.heap.size] w1 w2 → R (.returned (.int .i64 c)) w2) :
    Calls Tryz.prog 74 #[.func (.func g) #[] cap] w R := by
  refine calls_go 4000 okT Tryz.func74 rfl (rs := [.cell 2 29]) rfl Tryz.ntmps74 (args := [.func (.func g) #[] cap]) ?_
  simp (maxSteps := 1000000) (disch := first | omega | (simp only [sizeAlloc, sizeDrew, sizeSet, sizePut] <;> omega) | fail) only [GS, TT_eq, TTl, Nat.reduceAdd, Nat.reduceMul, Nat.reduceSub, Nat.reduceDiv, Nat.reduceMod, Nat.reducePow, Nat.reduceEqDiff, ↓reduceIte, reduceCtorEq, Int.reduceToNat, Int.reduceAdd, Int.reduceSub, Int.reduceMul]
  refine hold_defer rfl rfl (hold_ops okT (rs := [.cell 2 29]) rfl ?_)
  simp (maxSteps := 1000000) (disch := first | omega | (simp only [sizeAlloc, sizeDrew, sizeSet, sizePut] <;> omega) | fail) only [GS, TT_eq, TTl, Nat.reduceAdd, Nat.reduceMul, Nat.reduceSub, Nat.reduceDiv, Nat.reduceMod, Nat.reducePow, Nat.reduceEqDiff, ↓reduceIte, reduceCtorEq, Int.reduceToNat, Int.reduceAdd, Int.reduceSub, Int.reduceMul]
  rw [Array.toArray_toList]
  generalize hn : w.heap.size = n at *
  refine ⟨hg, callW_any hdo ?_⟩
  rintro e w1 ⟨⟨rfl, hA1⟩ | ⟨ce, rfl, hB1⟩, hc, hsz⟩
  · refine .inl ⟨_, rfl, hold_ops okT (rs := [.cell 2 29]) rfl ?_⟩
    have c1 : w1.cell? ⟨n, 0, none⟩ = some (.int .i64 0) := by rw [cellOf hc]; rfl
    have z1 := frozenOf (o := 0) hc
    simp (maxSteps := 1000000) (disch := first | omega | (simp only [sizeAlloc, sizeDrew, sizeSet, sizePut] <;> omega) | fail) only [GS, TT_eq, TTl, Nat.reduceAdd, Nat.reduceMul, Nat.reduceSub, Nat.reduceDiv, Nat.reduceMod, Nat.reducePow, Nat.reduceEqDiff, ↓reduceIte, reduceCtorEq, Int.reduceToNat, Int.reduceAdd, Int.reduceSub, Int.reduceMul, c1, z1]
    refine hold_leave (rs := [.cell 2 29]) okT rfl fok126 (.inr (.inl rfl)) (etryD_ret _ _ _ (.inl ⟨_, rfl, ?_⟩))
    show lastW TT [.cell 2 29] R _ .returning _
    have hs1 := heapSet (v := .int .i64 0) (o := 0) hc
    have hM := (Mod.refl [n] w1).set (p := ⟨n, 0, none⟩) (.inl (by simp)) (.int .i64 0)
    generalize w1.setCell ⟨n, 0, none⟩ (.int .i64 0) = w2 at hs1 hM ⊢
    have c2 : w2.cell? ⟨n, 0, none⟩ = some (.int .i64 0) := by rw [cellOf hs1]; rfl
    simp (maxSteps := 1000000) (disch := first | omega | (simp only [sizeAlloc, sizeDrew, sizeSet, sizePut] <;> omega) | fail) only [GS, TT_eq, TTl, Nat.reduceAdd, Nat.reduceMul, Nat.reduceSub, Nat.reduceDiv, Nat.reduceMod, Nat.reducePow, Nat.reduceEqDiff, ↓reduceIte, reduceCtorEq, Int.reduceToNat, Int.reduceAdd, Int.reduceSub, Int.reduceMul, lastW_ret]
    show ∃ v, w2.cell? ⟨n, 0, none⟩ = some v ∧ R (.returned v) w2
    exact ⟨_, c2, hA _ _ hA1 hM⟩
  · refine .inr ⟨_, rfl, hold_ex okT (rs := [.cell 2 29]) rfl ?_⟩
    simp (maxSteps := 1000000) (disch := first | omega | (simp only [sizeAlloc, sizeDrew, sizeSet, sizePut] <;> omega) | fail) only [GS, TT_eq, TTl, Nat.reduceAdd, Nat.reduceMul, Nat.reduceSub, Nat.reduceDiv, Nat.reduceMod, Nat.reducePow, Nat.reduceEqDiff, ↓reduceIte, reduceCtorEq, Int.reduceToNat, Int.reduceAdd, Int.reduceSub, Int.reduceMul]
    refine hold_leave (rs := [.cell 2 29]) okT rfl fok126 (.inr (.inr ⟨_, rfl⟩)) (etryD_pan ce n _ _ _ hc _ fun w2 hc2 hM => .inl ⟨_, rfl, ?_⟩)
    have c2 : w2.cell? ⟨n, 0, none⟩ = some (.int .i64 ce) := by rw [cellOf hc2]; rfl
    show lastW TT [.cell 2 29] R _ .returning w2
    simp (maxSteps := 1000000) (disch := first | omega | (simp only [sizeAlloc, sizeDrew, sizeSet, sizePut] <;> omega) | fail) only [GS, TT_eq, TTl, Nat.reduceAdd, Nat.reduceMul, Nat.reduceSub, Nat.reduceDiv, Nat.reduceMod, Nat.reducePow, Nat.reduceEqDiff, ↓reduceIte, reduceCtorEq, Int.reduceToNat, Int.reduceAdd, Int.reduceSub, Int.reduceMul, lastW_ret]
    show ∃ v, w2.cell? ⟨n, 0, none⟩ = some v ∧ R (.returned v) w2
    exact ⟨_, c2, hB _ _ _ hB1 hM⟩
end Go.Proofs.YtpcilobbohokcaaGreat
