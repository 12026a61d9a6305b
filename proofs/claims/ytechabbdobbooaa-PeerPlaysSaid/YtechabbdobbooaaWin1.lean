/-
  The window's functions: what each call does (walks).
-/
import Derived.Test.YtechabbdobbooaaTab
set_option linter.unusedSimpArgs false
set_option linter.unusedVariables false
namespace Go.Proofs.Ytechabbdobbooaa
open Go Go.Wk Go.RowKit
attribute [local irreducible] go Hold

def mayC (t : Int) (v : Nat) (n : Int) : Int :=
  if n < 1 then 2 else if 65535 < n then 2 else if 64 ≤ t - n then 180 else if n ≤ t then (if v.testBit (t - n).toNat then 9 else 0) else 0

theorem bit_eqN (v k : Nat) (hv : v < 18446744073709551616) (hk : k < 64) :
    (bits .and .u64 ((v : Int).fdiv (2 ^ capN .u64 k)) 1 = 1) ↔ v.testBit k = true := by
  have h1 : capN .u64 k = k := by simp [capN, IntKind.bits]; omega
  have h2 : (v : Int).fdiv (2 ^ k) = ((v / 2 ^ k : Nat) : Int) := by
    have : ((2 : Int) ^ k) = ((2 ^ k : Nat) : Int) := by simp
    rw [this]
    rw [Int.fdiv_eq_ediv_of_nonneg _ (Int.natCast_nonneg _)]
    simp
  rw [h1, h2]
  have h3 : (v / 2 ^ k) < 18446744073709551616 := Nat.lt_of_le_of_lt (Nat.div_le_self _ _) hv
  have h4 := u64_and_nat (v / 2 ^ k) 1 h3 (by decide)
  have h5 : bits .and .u64 ((v / 2 ^ k : Nat) : Int) 1 = ((v / 2 ^ k &&& 1 : Nat) : Int) := h4
  rw [h5, Nat.and_one_is_mod, Nat.testBit_eq_decide_div_mod_eq]
  simp only [decide_eq_true_eq]
  omega
theorem bit_eq (v : Nat) (i : Int) (hv : v < 18446744073709551616) (h0 : 0 ≤ i) (hk : i < 64) :
    (bits .and .u64 ((v : Int).fdiv (2 ^ capN .u64 i.toNat)) 1 = 1) ↔ v.testBit i.toNat = true := bit_eqN v i.toNat hv (by omega)

set_option maxRecDepth 20000 in
theorem May_cps (b : Nat) (n t : Int) (v : Nat) (w : World) (R : Ending → World → Prop) (ht : 0 ≤ t) (ht2 : t ≤ 65535) (hv : v < 18446744073709551616)
    (hc : w.cell? ⟨b, 0, none⟩ = some (.int .i64 t)) (hw : w.cell? ⟨b, 1, none⟩ = some (.int .u64 v))
    (hR : ∀ m, R (.returned (.int .i64 (mayC t v n))) (w.drewN m)) :
    Calls Try.prog 28 #[.pointer (some ⟨b, 0, none⟩), .int .i64 n] w R := by
  have hR0 := hR 0
  rw [World.drewN_zero] at hR0
  unfold mayC at hR hR0
  by_cases h1 : n < 1
  · rw [if_pos h1] at hR0
    refine calls_go 4000 okT Try.func28 rfl (rs := [.tmp 4]) rfl Try.ntmps28 (args := [.pointer (some ⟨b, 0, none⟩), .int .i64 n]) ?_
    simp (config := { maxSteps := 1000000 }) (disch := first | omega | (simp only [sizeAlloc, sizeDrew, sizeSet, sizePut]; omega) | fail) only [GS1, GS2, GS3, GS4, GS5, GS6, GS7, GS8, GS9, GS10, TT_eq, TTl, Nat.reduceAdd, Nat.reduceMul, Nat.reduceSub, Nat.reduceDiv, Nat.reduceMod, Nat.reducePow, Nat.reduceEqDiff, ↓reduceIte, reduceCtorEq, true_and, and_true, and_self, false_and, and_false, Int.reduceToNat, Int.reduceAdd, Int.reduceSub, Int.reduceMul, cond_true, cond_false, List.toList_toArray, Option.map_some, Option.map_none, Option.some.injEq, List.cons_append, List.nil_append, h1, decide_true, decide_false]
    exact hR0
  rw [if_neg h1] at hR hR0
  by_cases h2 : 65535 < n
  · rw [if_pos h2] at hR0
    refine calls_go 4000 okT Try.func28 rfl (rs := [.tmp 4]) rfl Try.ntmps28 (args := [.pointer (some ⟨b, 0, none⟩), .int .i64 n]) ?_
    simp (config := { maxSteps := 1000000 }) (disch := first | omega | (simp only [sizeAlloc, sizeDrew, sizeSet, sizePut]; omega) | fail) only [GS1, GS2, GS3, GS4, GS5, GS6, GS7, GS8, GS9, GS10, TT_eq, TTl, Nat.reduceAdd, Nat.reduceMul, Nat.reduceSub, Nat.reduceDiv, Nat.reduceMod, Nat.reducePow, Nat.reduceEqDiff, ↓reduceIte, reduceCtorEq, true_and, and_true, and_self, false_and, and_false, Int.reduceToNat, Int.reduceAdd, Int.reduceSub, Int.reduceMul, cond_true, cond_false, List.toList_toArray, Option.map_some, Option.map_none, Option.some.injEq, List.cons_append, List.nil_append, h1, h2, decide_true, decide_false]
    exact hR0
  rw [if_neg h2] at hR hR0
  have hi : inI64 (t - n) := by unfold inI64; omega
  by_cases h3 : 64 ≤ t - n
  · rw [if_pos h3] at hR0
    refine calls_go 4000 okT Try.func28 rfl (rs := [.tmp 4]) rfl Try.ntmps28 (args := [.pointer (some ⟨b, 0, none⟩), .int .i64 n]) ?_
    simp (config := { maxSteps := 1000000 }) (disch := first | omega | (simp only [sizeAlloc, sizeDrew, sizeSet, sizePut]; omega) | fail) only [GS1, GS2, GS3, GS4, GS5, GS6, GS7, GS8, GS9, GS10, TT_eq, TTl, Nat.reduceAdd, Nat.reduceMul, Nat.reduceSub, Nat.reduceDiv, Nat.reduceMod, Nat.reducePow, Nat.reduceEqDiff, ↓reduceIte, reduceCtorEq, true_and, and_true, and_self, false_and, and_false, Int.reduceToNat, Int.reduceAdd, Int.reduceSub, Int.reduceMul, cond_true, cond_false, List.toList_toArray, Option.map_some, Option.map_none, Option.some.injEq, List.cons_append, List.nil_append, h1, h2, h3, hi, hc, decide_true, decide_false]
    exact hR0
  rw [if_neg h3] at hR hR0
  by_cases h4 : n ≤ t
  · rw [if_pos h4] at hR hR0
    have h5 : 0 ≤ t - n := by omega
    have hb := bit_eq v (t - n) hv h5 (by omega)
    by_cases h6 : v.testBit (t - n).toNat = true
    · rw [if_pos h6] at hR
      have h7 := hb.2 h6
      refine calls_go 4000 okT Try.func28 rfl (rs := [.tmp 4]) rfl Try.ntmps28 (args := [.pointer (some ⟨b, 0, none⟩), .int .i64 n]) ?_
      simp (config := { maxSteps := 1000000 }) (disch := first | omega | (simp only [sizeAlloc, sizeDrew, sizeSet, sizePut]; omega) | fail) only [GS1, GS2, GS3, GS4, GS5, GS6, GS7, GS8, GS9, GS10, TT_eq, TTl, Nat.reduceAdd, Nat.reduceMul, Nat.reduceSub, Nat.reduceDiv, Nat.reduceMod, Nat.reducePow, Nat.reduceEqDiff, ↓reduceIte, reduceCtorEq, true_and, and_true, and_self, false_and, and_false, Int.reduceToNat, Int.reduceAdd, Int.reduceSub, Int.reduceMul, cond_true, cond_false, List.toList_toArray, Option.map_some, Option.map_none, Option.some.injEq, List.cons_append, List.nil_append, h1, h2, h3, h4, h5, h7, hi, hc, hw, decide_true, decide_false, cellDrew]
      exact ⟨by kernel_rfl, hR⟩
    · rw [if_neg h6] at hR
      have h7 : ¬ _ := fun h => h6 (hb.1 h)
      refine calls_go 4000 okT Try.func28 rfl (rs := [.tmp 4]) rfl Try.ntmps28 (args := [.pointer (some ⟨b, 0, none⟩), .int .i64 n]) ?_
      simp (config := { maxSteps := 1000000 }) (disch := first | omega | (simp only [sizeAlloc, sizeDrew, sizeSet, sizePut]; omega) | fail) only [GS1, GS2, GS3, GS4, GS5, GS6, GS7, GS8, GS9, GS10, TT_eq, TTl, Nat.reduceAdd, Nat.reduceMul, Nat.reduceSub, Nat.reduceDiv, Nat.reduceMod, Nat.reducePow, Nat.reduceEqDiff, ↓reduceIte, reduceCtorEq, true_and, and_true, and_self, false_and, and_false, Int.reduceToNat, Int.reduceAdd, Int.reduceSub, Int.reduceMul, cond_true, cond_false, List.toList_toArray, Option.map_some, Option.map_none, Option.some.injEq, List.cons_append, List.nil_append, h1, h2, h3, h4, h5, h7, hi, hc, hw, decide_true, decide_false, cellDrew]
      exact ⟨by kernel_rfl, hR⟩
  · rw [if_neg h4] at hR
    refine calls_go 4000 okT Try.func28 rfl (rs := [.tmp 4]) rfl Try.ntmps28 (args := [.pointer (some ⟨b, 0, none⟩), .int .i64 n]) ?_
    simp (config := { maxSteps := 1000000 }) (disch := first | omega | (simp only [sizeAlloc, sizeDrew, sizeSet, sizePut]; omega) | fail) only [GS1, GS2, GS3, GS4, GS5, GS6, GS7, GS8, GS9, GS10, TT_eq, TTl, Nat.reduceAdd, Nat.reduceMul, Nat.reduceSub, Nat.reduceDiv, Nat.reduceMod, Nat.reducePow, Nat.reduceEqDiff, ↓reduceIte, reduceCtorEq, true_and, and_true, and_self, false_and, and_false, Int.reduceToNat, Int.reduceAdd, Int.reduceSub, Int.reduceMul, cond_true, cond_false, List.toList_toArray, Option.map_some, Option.map_none, Option.some.injEq, List.cons_append, List.nil_append, h1, h2, h3, h4, hi, hc, hw, decide_true, decide_false, cellDrew]
    exact ⟨by kernel_rfl, hR⟩
end Go.Proofs.Ytechabbdobbooaa
