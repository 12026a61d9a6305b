/-
  Rows of names; sets (walks).
-/
import Derived.Test.YtbdiihilbcinpaaDoorKey2
set_option linter.unusedSimpArgs false
set_option linter.unusedVariables false
namespace Go.Proofs.YtbdiihilbcinpaaDoor
open Go Go.Wk Go.RowKit
attribute [local irreducible] go Hold
def strV (l : List UInt8) : Value := .string ⟨l.toArray⟩
theorem getS {xs : List (List UInt8)} {k : Nat} (h : k < xs.length) : (xs.map strV)[k]? = some (.string ⟨xs[k].toArray⟩) := by simp [h, strV]
set_option maxHeartbeats 1000000 in
theorem Same_cps (sa sb : Value) (xs ys : List (List UInt8)) (w : World) (R : Ending → World → Prop) (hx : xs.length ≤ 9223372036854775807) (ha : Rd w 1 sa xs.length (xs.map strV)) (hb : Rd w 1 sb ys.length (ys.map strV))
    (hR : ∀ n, R (.returned (.bool (decide (xs = ys)))) (w.drewN n)) : Calls Tryd.prog 10 #[sa, sb] w R := by
  have hR0 := hR 0
  rw [World.drewN_zero] at hR0
  have hl2 := hx
  by_cases hl : xs.length = ys.length
  · obtain ⟨a, ca, rfl⟩ := ha.slice
    obtain ⟨b, cb, rfl⟩ := hb.slice
    refine calls_go 4000 okT Tryd.func10 rfl (rs := [.tmp 4]) rfl Tryd.ntmps10 (args := [.slice a xs.length ca, .slice b ys.length cb]) ?_
    simp (config := { maxSteps := 1000000 }) (disch := first | omega | (simp only [sizeAlloc, sizeDrew, sizeSet, sizePut]; omega) | fail) only [GS1, GS2, GS3, GS4, GS5, GS6, GS7, GS8, GS9, GS10, TT_eq, TTl, Nat.reduceAdd, Nat.reduceMul, Nat.reduceSub, Nat.reduceDiv, Nat.reduceMod, Nat.reducePow, Nat.reduceEqDiff, ↓reduceIte, reduceCtorEq, true_and, and_true, and_self, false_and, and_false, Int.reduceToNat, Int.reduceAdd, Int.reduceSub, Int.reduceMul, cond_true, cond_false, List.toList_toArray, Option.map_some, Option.map_none, Option.some.injEq, List.cons_append, List.nil_append, List.length_cons, List.length_nil, List.getD_cons_zero, List.getD_cons_succ]
    refine hold_loop okT (rs := [.tmp 4]) rfl [5] [4, 11, 12, 13, 14, 15, 16, 17, 18, 19, 20, 21, 22, 23, 24, 25] (fun vs w' => ∃ k n : Nat, k ≤ xs.length ∧ vs = [.int .i64 k] ∧ w' = w.drewN n ∧ xs.take k = ys.take k) (fun vs _ => match vs with | [.int _ i] => xs.length - i.toNat | _ => 0) (by kernel_rfl) ⟨0, 0, by omega, rfl, rfl, by simp⟩ ?_
    rintro vs w' J ⟨k, n, hk, rfl, rfl, ht⟩
    by_cases hlt : k < xs.length
    · obtain ⟨b1, o1, c1, e1, _, g1⟩ := ha.at (by omega) (by omega)
      obtain ⟨b2, o2, c2, e2, _, g2⟩ := hb.at (by omega) (by omega)
      have f1 := g1 k _ (getS hlt)
      have f2 := g2 k _ (getS (hl ▸ hlt))
      rw [Value.slice.injEq] at e1 e2
      obtain ⟨rfl, -, -⟩ := e1
      obtain ⟨rfl, -, -⟩ := e2
      by_cases he : xs[k] = ys[k]
      · simp (config := { maxSteps := 1000000 }) (disch := first | omega | (simp only [sizeAlloc, sizeDrew, sizeSet, sizePut]; omega) | fail) only [GS1, GS2, GS3, GS4, GS5, GS6, GS7, GS8, GS9, GS10, TT_eq, TTl, Nat.reduceAdd, Nat.reduceMul, Nat.reduceSub, Nat.reduceDiv, Nat.reduceMod, Nat.reducePow, Nat.reduceEqDiff, ↓reduceIte, reduceCtorEq, true_and, and_true, and_self, false_and, and_false, Int.reduceToNat, Int.reduceAdd, Int.reduceSub, Int.reduceMul, cond_true, cond_false, List.toList_toArray, Option.map_some, Option.map_none, Option.some.injEq, List.cons_append, List.nil_append, List.length_cons, List.length_nil, List.getD_cons_zero, List.getD_cons_succ, f1, f2, he]
        refine ⟨by kernel_rfl, fun m => ⟨⟨k + 1, n + m, by omega, rfl, rfl, ?_⟩, by omega⟩⟩
        rw [List.take_succ_eq_append_getElem hlt, List.take_succ_eq_append_getElem (hl ▸ hlt), ht, he]
      · simp (config := { maxSteps := 1000000 }) (disch := first | omega | (simp only [sizeAlloc, sizeDrew, sizeSet, sizePut]; omega) | fail) only [GS1, GS2, GS3, GS4, GS5, GS6, GS7, GS8, GS9, GS10, TT_eq, TTl, Nat.reduceAdd, Nat.reduceMul, Nat.reduceSub, Nat.reduceDiv, Nat.reduceMod, Nat.reducePow, Nat.reduceEqDiff, ↓reduceIte, reduceCtorEq, true_and, and_true, and_self, false_and, and_false, Int.reduceToNat, Int.reduceAdd, Int.reduceSub, Int.reduceMul, cond_true, cond_false, List.toList_toArray, Option.map_some, Option.map_none, Option.some.injEq, List.cons_append, List.nil_append, List.length_cons, List.length_nil, List.getD_cons_zero, List.getD_cons_succ, f1, f2, he]
        rw [decide_eq_false (fun e => he (by subst e; rfl))] at hR
        exact ⟨by kernel_rfl, fun m => hR _⟩
    · have e : k = xs.length := by omega
      subst e
      have e2 : xs = ys := by rw [List.take_length] at ht; rw [ht, hl, List.take_length]
      simp (config := { maxSteps := 1000000 }) (disch := first | omega | (simp only [sizeAlloc, sizeDrew, sizeSet, sizePut]; omega) | fail) only [GS1, GS2, GS3, GS4, GS5, GS6, GS7, GS8, GS9, GS10, TT_eq, TTl, Nat.reduceAdd, Nat.reduceMul, Nat.reduceSub, Nat.reduceDiv, Nat.reduceMod, Nat.reducePow, Nat.reduceEqDiff, ↓reduceIte, reduceCtorEq, true_and, and_true, and_self, false_and, and_false, Int.reduceToNat, Int.reduceAdd, Int.reduceSub, Int.reduceMul, cond_true, cond_false, List.toList_toArray, Option.map_some, Option.map_none, Option.some.injEq, List.cons_append, List.nil_append, List.length_cons, List.length_nil, List.getD_cons_zero, List.getD_cons_succ]
      rw [decide_eq_true e2] at hR
      exact hR n
  · obtain ⟨a, ca, rfl⟩ := ha.slice
    obtain ⟨b, cb, rfl⟩ := hb.slice
    refine calls_go 4000 okT Tryd.func10 rfl (rs := [.tmp 4]) rfl Tryd.ntmps10 (args := [.slice a xs.length ca, .slice b ys.length cb]) ?_
    simp (config := { maxSteps := 1000000 }) (disch := first | omega | (simp only [sizeAlloc, sizeDrew, sizeSet, sizePut]; omega) | fail) only [GS1, GS2, GS3, GS4, GS5, GS6, GS7, GS8, GS9, GS10, TT_eq, TTl, Nat.reduceAdd, Nat.reduceMul, Nat.reduceSub, Nat.reduceDiv, Nat.reduceMod, Nat.reducePow, Nat.reduceEqDiff, ↓reduceIte, reduceCtorEq, true_and, and_true, and_self, false_and, and_false, Int.reduceToNat, Int.reduceAdd, Int.reduceSub, Int.reduceMul, cond_true, cond_false, List.toList_toArray, Option.map_some, Option.map_none, Option.some.injEq, List.cons_append, List.nil_append, List.length_cons, List.length_nil, List.getD_cons_zero, List.getD_cons_succ]
    rw [decide_eq_false (fun e => hl (by rw [e]))] at hR0
    exact hR0
set_option maxHeartbeats 1000000 in
theorem InL_cps (sa : Value) (xs : List (List UInt8)) (s : List UInt8) (w : World) (R : Ending → World → Prop) (hx : xs.length ≤ 9223372036854775807) (ha : Rd w 1 sa xs.length (xs.map strV))
    (hR : R (.returned (.bool (decide (s ∈ xs)))) w) : Calls Tryd.prog 19 #[sa, .string ⟨s.toArray⟩] w R := by
  obtain ⟨a, ca, rfl⟩ := ha.slice
  refine calls_go 4000 okT Tryd.func19 rfl (rs := [.tmp 4]) rfl Tryd.ntmps19 (args := [.slice a xs.length ca, .string ⟨s.toArray⟩]) ?_
  simp (config := { maxSteps := 1000000 }) (disch := first | omega | (simp only [sizeAlloc, sizeDrew, sizeSet, sizePut]; omega) | fail) only [GS1, GS2, GS3, GS4, GS5, GS6, GS7, GS8, GS9, GS10, TT_eq, TTl, Nat.reduceAdd, Nat.reduceMul, Nat.reduceSub, Nat.reduceDiv, Nat.reduceMod, Nat.reducePow, Nat.reduceEqDiff, ↓reduceIte, reduceCtorEq, true_and, and_true, and_self, false_and, and_false, Int.reduceToNat, Int.reduceAdd, Int.reduceSub, Int.reduceMul, cond_true, cond_false, List.toList_toArray, Option.map_some, Option.map_none, Option.some.injEq, List.cons_append, List.nil_append, List.length_cons, List.length_nil, List.getD_cons_zero, List.getD_cons_succ]
  refine hold_loop okT (rs := [.tmp 4]) rfl [5] [4, 6, 7, 8, 9, 10, 11, 12, 13, 14, 15, 16, 17] (fun vs w' => ∃ k : Nat, k ≤ xs.length ∧ vs = [.int .i64 k] ∧ w' = w ∧ s ∉ xs.take k) (fun vs _ => match vs with | [.int _ i] => xs.length - i.toNat | _ => 0) (by kernel_rfl) ⟨0, by omega, rfl, rfl, by simp⟩ ?_
  rintro vs w' J ⟨k, hk, rfl, rfl, hn⟩
  by_cases hlt : k < xs.length
  · obtain ⟨b1, o1, c1, e1, _, g1⟩ := ha.at (by omega) (by omega)
    have f1 := g1 k _ (getS hlt)
    rw [Value.slice.injEq] at e1
    obtain ⟨rfl, -, -⟩ := e1
    by_cases he : xs[k] = s
    · simp (config := { maxSteps := 1000000 }) (disch := first | omega | (simp only [sizeAlloc, sizeDrew, sizeSet, sizePut]; omega) | fail) only [GS1, GS2, GS3, GS4, GS5, GS6, GS7, GS8, GS9, GS10, TT_eq, TTl, Nat.reduceAdd, Nat.reduceMul, Nat.reduceSub, Nat.reduceDiv, Nat.reduceMod, Nat.reducePow, Nat.reduceEqDiff, ↓reduceIte, reduceCtorEq, true_and, and_true, and_self, false_and, and_false, Int.reduceToNat, Int.reduceAdd, Int.reduceSub, Int.reduceMul, cond_true, cond_false, List.toList_toArray, Option.map_some, Option.map_none, Option.some.injEq, List.cons_append, List.nil_append, List.length_cons, List.length_nil, List.getD_cons_zero, List.getD_cons_succ, f1, he]
      rw [decide_eq_true (by rw [← he]; exact List.getElem_mem hlt)] at hR
      exact hR
    · simp (config := { maxSteps := 1000000 }) (disch := first | omega | (simp only [sizeAlloc, sizeDrew, sizeSet, sizePut]; omega) | fail) only [GS1, GS2, GS3, GS4, GS5, GS6, GS7, GS8, GS9, GS10, TT_eq, TTl, Nat.reduceAdd, Nat.reduceMul, Nat.reduceSub, Nat.reduceDiv, Nat.reduceMod, Nat.reducePow, Nat.reduceEqDiff, ↓reduceIte, reduceCtorEq, true_and, and_true, and_self, false_and, and_false, Int.reduceToNat, Int.reduceAdd, Int.reduceSub, Int.reduceMul, cond_true, cond_false, List.toList_toArray, Option.map_some, Option.map_none, Option.some.injEq, List.cons_append, List.nil_append, List.length_cons, List.length_nil, List.getD_cons_zero, List.getD_cons_succ, f1, he]
      refine ⟨⟨k + 1, by omega, rfl, ?_⟩, by omega⟩
      rw [List.take_succ_eq_append_getElem hlt]
      intro hm
      rcases List.mem_append.1 hm with hm | hm
      · exact hn hm
      · simp only [List.mem_singleton] at hm; exact he hm.symm
  · have e : k = xs.length := by omega
    subst e
    rw [List.take_length] at hn
    rw [decide_eq_false hn] at hR
    simp (config := { maxSteps := 1000000 }) (disch := first | omega | (simp only [sizeAlloc, sizeDrew, sizeSet, sizePut]; omega) | fail) only [GS1, GS2, GS3, GS4, GS5, GS6, GS7, GS8, GS9, GS10, TT_eq, TTl, Nat.reduceAdd, Nat.reduceMul, Nat.reduceSub, Nat.reduceDiv, Nat.reduceMod, Nat.reducePow, Nat.reduceEqDiff, ↓reduceIte, reduceCtorEq, true_and, and_true, and_self, false_and, and_false, Int.reduceToNat, Int.reduceAdd, Int.reduceSub, Int.reduceMul, cond_true, cond_false, List.toList_toArray, Option.map_some, Option.map_none, Option.some.injEq, List.cons_append, List.nil_append, List.length_cons, List.length_nil, List.getD_cons_zero, List.getD_cons_succ]
    exact hR
/-- Who is in a set. -/
def inS (v : Nat) (a : Int) : Bool := decide (orgOk a) && v.testBit a.toNat
theorem inS_out {v : Nat} {a : Int} (h : ¬ orgOk a) : inS v a = false := by unfold inS; rw [decide_eq_false h]; rfl
theorem inS_in {v : Nat} {k : Nat} (h : k < 8) : inS v k = v.testBit k := by
  unfold inS; rw [decide_eq_true ⟨by omega, by omega⟩]; rfl
theorem bit8 : ∀ v : Fin 256, ∀ k : Fin 8, (decide (((v.val : Int).fdiv (2 ^ capN .u8 k.val)).tmod 2 = 1)) = v.val.testBit k.val := by decide +kernel
theorem and8 : ∀ v : Fin 256, ∀ k : Fin 8, bnot (decide (bits .and .u8 (v.val : Int) (IntKind.u8.wrap (1 * 2 ^ capN .u8 k.val)) = 0)) = v.val.testBit k.val := by decide +kernel
set_option maxHeartbeats 1000000 in
theorem rInS_cps (v : Nat) (a : Int) (hv : v < 256) (w : World) (R : Ending → World → Prop) (hR : R (.returned (.bool (inS v a))) w) : Calls Tryd.prog 18 #[.int .u8 v, .int .i64 a] w R := by
  by_cases h1 : 0 ≤ a
  · by_cases h2 : a < 8
    · obtain ⟨k, rfl⟩ := Int.eq_ofNat_of_zero_le h1
      have hk : k < 8 := by omega
      have hb := bit8 ⟨v, hv⟩ ⟨k, hk⟩
      simp only at hb
      rw [inS_in hk, ← hb] at hR
      refine calls_go 4000 okT Tryd.func18 rfl (rs := [.tmp 4]) rfl Tryd.ntmps18 (args := [.int .u8 v, .int .i64 k]) ?_
      simp (config := { maxSteps := 1000000 }) (disch := first | omega | (simp only [sizeAlloc, sizeDrew, sizeSet, sizePut]; omega) | fail) only [GS1, GS2, GS3, GS4, GS5, GS6, GS7, GS8, GS9, GS10, TT_eq, TTl, Nat.reduceAdd, Nat.reduceMul, Nat.reduceSub, Nat.reduceDiv, Nat.reduceMod, Nat.reducePow, Nat.reduceEqDiff, ↓reduceIte, reduceCtorEq, true_and, and_true, and_self, false_and, and_false, Int.reduceToNat, Int.reduceAdd, Int.reduceSub, Int.reduceMul, cond_true, cond_false, List.toList_toArray, Option.map_some, Option.map_none, Option.some.injEq, List.cons_append, List.nil_append, List.length_cons, List.length_nil, List.getD_cons_zero, List.getD_cons_succ]
      exact hR
    · rw [inS_out (fun h => h2 h.2)] at hR
      refine calls_go 4000 okT Tryd.func18 rfl (rs := [.tmp 4]) rfl Tryd.ntmps18 (args := [.int .u8 v, .int .i64 a]) ?_
      simp (config := { maxSteps := 1000000 }) (disch := first | omega | (simp only [sizeAlloc, sizeDrew, sizeSet, sizePut]; omega) | fail) only [GS1, GS2, GS3, GS4, GS5, GS6, GS7, GS8, GS9, GS10, TT_eq, TTl, Nat.reduceAdd, Nat.reduceMul, Nat.reduceSub, Nat.reduceDiv, Nat.reduceMod, Nat.reducePow, Nat.reduceEqDiff, ↓reduceIte, reduceCtorEq, true_and, and_true, and_self, false_and, and_false, Int.reduceToNat, Int.reduceAdd, Int.reduceSub, Int.reduceMul, cond_true, cond_false, List.toList_toArray, Option.map_some, Option.map_none, Option.some.injEq, List.cons_append, List.nil_append, List.length_cons, List.length_nil, List.getD_cons_zero, List.getD_cons_succ]
      exact hR
  · rw [inS_out (fun h => h1 h.1)] at hR
    refine calls_go 4000 okT Tryd.func18 rfl (rs := [.tmp 4]) rfl Tryd.ntmps18 (args := [.int .u8 v, .int .i64 a]) ?_
    simp (config := { maxSteps := 1000000 }) (disch := first | omega | (simp only [sizeAlloc, sizeDrew, sizeSet, sizePut]; omega) | fail) only [GS1, GS2, GS3, GS4, GS5, GS6, GS7, GS8, GS9, GS10, TT_eq, TTl, Nat.reduceAdd, Nat.reduceMul, Nat.reduceSub, Nat.reduceDiv, Nat.reduceMod, Nat.reducePow, Nat.reduceEqDiff, ↓reduceIte, reduceCtorEq, true_and, and_true, and_self, false_and, and_false, Int.reduceToNat, Int.reduceAdd, Int.reduceSub, Int.reduceMul, cond_true, cond_false, List.toList_toArray, Option.map_some, Option.map_none, Option.some.injEq, List.cons_append, List.nil_append, List.length_cons, List.length_nil, List.getD_cons_zero, List.getD_cons_succ]
    exact hR
set_option maxHeartbeats 1000000 in
theorem kInS_cps (v : Nat) (a : Int) (hv : v < 256) (w : World) (R : Ending → World → Prop) (hR : R (.returned (.bool (inS v a))) w) : Calls Tryd.prog 27 #[.int .u8 v, .int .i64 a] w R := by
  by_cases h1 : 0 ≤ a
  · by_cases h2 : a < 8
    · obtain ⟨k, rfl⟩ := Int.eq_ofNat_of_zero_le h1
      have hk : k < 8 := by omega
      have hb := and8 ⟨v, hv⟩ ⟨k, hk⟩
      simp only at hb
      rw [inS_in hk, ← hb] at hR
      refine calls_go 4000 okT Tryd.func27 rfl (rs := [.tmp 4]) rfl Tryd.ntmps27 (args := [.int .u8 v, .int .i64 k]) ?_
      simp (config := { maxSteps := 1000000 }) (disch := first | omega | (simp only [sizeAlloc, sizeDrew, sizeSet, sizePut]; omega) | fail) only [GS1, GS2, GS3, GS4, GS5, GS6, GS7, GS8, GS9, GS10, TT_eq, TTl, Nat.reduceAdd, Nat.reduceMul, Nat.reduceSub, Nat.reduceDiv, Nat.reduceMod, Nat.reducePow, Nat.reduceEqDiff, ↓reduceIte, reduceCtorEq, true_and, and_true, and_self, false_and, and_false, Int.reduceToNat, Int.reduceAdd, Int.reduceSub, Int.reduceMul, cond_true, cond_false, List.toList_toArray, Option.map_some, Option.map_none, Option.some.injEq, List.cons_append, List.nil_append, List.length_cons, List.length_nil, List.getD_cons_zero, List.getD_cons_succ]
      exact hR
    · rw [inS_out (fun h => h2 h.2)] at hR
      refine calls_go 4000 okT Tryd.func27 rfl (rs := [.tmp 4]) rfl Tryd.ntmps27 (args := [.int .u8 v, .int .i64 a]) ?_
      simp (config := { maxSteps := 1000000 }) (disch := first | omega | (simp only [sizeAlloc, sizeDrew, sizeSet, sizePut]; omega) | fail) only [GS1, GS2, GS3, GS4, GS5, GS6, GS7, GS8, GS9, GS10, TT_eq, TTl, Nat.reduceAdd, Nat.reduceMul, Nat.reduceSub, Nat.reduceDiv, Nat.reduceMod, Nat.reducePow, Nat.reduceEqDiff, ↓reduceIte, reduceCtorEq, true_and, and_true, and_self, false_and, and_false, Int.reduceToNat, Int.reduceAdd, Int.reduceSub, Int.reduceMul, cond_true, cond_false, List.toList_toArray, Option.map_some, Option.map_none, Option.some.injEq, List.cons_append, List.nil_append, List.length_cons, List.length_nil, List.getD_cons_zero, List.getD_cons_succ]
      exact hR
  · rw [inS_out (fun h => h1 h.1)] at hR
    refine calls_go 4000 okT Tryd.func27 rfl (rs := [.tmp 4]) rfl Tryd.ntmps27 (args := [.int .u8 v, .int .i64 a]) ?_
    simp (config := { maxSteps := 1000000 }) (disch := first | omega | (simp only [sizeAlloc, sizeDrew, sizeSet, sizePut]; omega) | fail) only [GS1, GS2, GS3, GS4, GS5, GS6, GS7, GS8, GS9, GS10, TT_eq, TTl, Nat.reduceAdd, Nat.reduceMul, Nat.reduceSub, Nat.reduceDiv, Nat.reduceMod, Nat.reducePow, Nat.reduceEqDiff, ↓reduceIte, reduceCtorEq, true_and, and_true, and_self, false_and, and_false, Int.reduceToNat, Int.reduceAdd, Int.reduceSub, Int.reduceMul, cond_true, cond_false, List.toList_toArray, Option.map_some, Option.map_none, Option.some.injEq, List.cons_append, List.nil_append, List.length_cons, List.length_nil, List.getD_cons_zero, List.getD_cons_succ]
    exact hR
def mayN (n : Int) : Prop := 1 ≤ n ∧ n ≤ 8
instance (n : Int) : Decidable (mayN n) := inferInstanceAs (Decidable (_ ∧ _))
theorem may_cps (n : Int) (w : World) (R : Ending → World → Prop) (hR : R (.returned (.bool (decide (mayN n)))) w) : Calls Tryd.prog 25 #[.int .i64 n] w R := by
  by_cases h1 : 1 ≤ n
  · by_cases h2 : n ≤ 8
    · rw [decide_eq_true ⟨h1, h2⟩] at hR
      refine calls_go 4000 okT Tryd.func25 rfl (rs := [.tmp 2]) rfl Tryd.ntmps25 (args := [.int .i64 n]) ?_
      simp (config := { maxSteps := 1000000 }) (disch := first | omega | (simp only [sizeAlloc, sizeDrew, sizeSet, sizePut]; omega) | fail) only [GS1, GS2, GS3, GS4, GS5, GS6, GS7, GS8, GS9, GS10, TT_eq, TTl, Nat.reduceAdd, Nat.reduceMul, Nat.reduceSub, Nat.reduceDiv, Nat.reduceMod, Nat.reducePow, Nat.reduceEqDiff, ↓reduceIte, reduceCtorEq, true_and, and_true, and_self, false_and, and_false, Int.reduceToNat, Int.reduceAdd, Int.reduceSub, Int.reduceMul, cond_true, cond_false, List.toList_toArray, Option.map_some, Option.map_none, Option.some.injEq, List.cons_append, List.nil_append, List.length_cons, List.length_nil, List.getD_cons_zero, List.getD_cons_succ]
      exact hR
    · rw [decide_eq_false (fun h => h2 h.2)] at hR
      refine calls_go 4000 okT Tryd.func25 rfl (rs := [.tmp 2]) rfl Tryd.ntmps25 (args := [.int .i64 n]) ?_
      simp (config := { maxSteps := 1000000 }) (disch := first | omega | (simp only [sizeAlloc, sizeDrew, sizeSet, sizePut]; omega) | fail) only [GS1, GS2, GS3, GS4, GS5, GS6, GS7, GS8, GS9, GS10, TT_eq, TTl, Nat.reduceAdd, Nat.reduceMul, Nat.reduceSub, Nat.reduceDiv, Nat.reduceMod, Nat.reducePow, Nat.reduceEqDiff, ↓reduceIte, reduceCtorEq, true_and, and_true, and_self, false_and, and_false, Int.reduceToNat, Int.reduceAdd, Int.reduceSub, Int.reduceMul, cond_true, cond_false, List.toList_toArray, Option.map_some, Option.map_none, Option.some.injEq, List.cons_append, List.nil_append, List.length_cons, List.length_nil, List.getD_cons_zero, List.getD_cons_succ]
      exact hR
  · rw [decide_eq_false (fun h => h1 h.1)] at hR
    refine calls_go 4000 okT Tryd.func25 rfl (rs := [.tmp 2]) rfl Tryd.ntmps25 (args := [.int .i64 n]) ?_
    simp (config := { maxSteps := 1000000 }) (disch := first | omega | (simp only [sizeAlloc, sizeDrew, sizeSet, sizePut]; omega) | fail) only [GS1, GS2, GS3, GS4, GS5, GS6, GS7, GS8, GS9, GS10, TT_eq, TTl, Nat.reduceAdd, Nat.reduceMul, Nat.reduceSub, Nat.reduceDiv, Nat.reduceMod, Nat.reducePow, Nat.reduceEqDiff, ↓reduceIte, reduceCtorEq, true_and, and_true, and_self, false_and, and_false, Int.reduceToNat, Int.reduceAdd, Int.reduceSub, Int.reduceMul, cond_true, cond_false, List.toList_toArray, Option.map_some, Option.map_none, Option.some.injEq, List.cons_append, List.nil_append, List.length_cons, List.length_nil, List.getD_cons_zero, List.getD_cons_succ]
    exact hR
set_option maxHeartbeats 1000000 in
theorem both_cps (sv : Value) (base : Nat) (xs : List (List UInt8)) (a b : Int) (hp : pairOk a b) (w : World) (R : Ending → World → Prop) (hg : KG w) (hb0 : 0 < base) (hb : base ≤ w.heap.size) (ho : w.ownsRow base 9 1 sv xs.length (xs.map strV)) (hx : xs.length ≤ 1000000)
    (hR : ∀ w' sv', w'.ownsRow base 9 1 sv' (xs ++ [keyL 1 a b, keyL 2 a b]).length ((xs ++ [keyL 1 a b, keyL 2 a b]).map strV) → Mod sv.ownBlock.toList w w' → R (.returned sv') w') :
    Calls Tryd.prog 28 #[sv, .int .i64 a, .int .i64 b] w R := by
  have hkA : ∀ k, keyA k a b = .tuple #[.string ⟨(keyL k a b).toArray⟩, .int .i64 0] := fun k => by unfold keyA; rw [if_pos hp]
  refine calls_go 4000 okT Tryd.func28 rfl (rs := [.tmp 6]) rfl Tryd.ntmps28 (args := [sv, .int .i64 a, .int .i64 b]) ?_
  simp (config := { maxSteps := 1000000 }) (disch := first | omega | (simp only [sizeAlloc, sizeDrew, sizeSet, sizePut]; omega) | fail) only [GS1, GS2, GS3, GS4, GS5, GS6, GS7, GS8, GS9, GS10, TT_eq, TTl, Nat.reduceAdd, Nat.reduceMul, Nat.reduceSub, Nat.reduceDiv, Nat.reduceMod, Nat.reducePow, Nat.reduceEqDiff, ↓reduceIte, reduceCtorEq, true_and, and_true, and_self, false_and, and_false, Int.reduceToNat, Int.reduceAdd, Int.reduceSub, Int.reduceMul, cond_true, cond_false, List.toList_toArray, Option.map_some, Option.map_none, Option.some.injEq, List.cons_append, List.nil_append, List.length_cons, List.length_nil, List.getD_cons_zero, List.getD_cons_succ]
  refine ⟨fok11, kTag_cps a b _ _ hg fun w1 hM1 => .inl ⟨_, rfl, hold_ops okT (rs := [.tmp 6]) rfl ?_⟩⟩
  rw [hkA]
  simp (config := { maxSteps := 1000000 }) (disch := first | omega | (simp only [sizeAlloc, sizeDrew, sizeSet, sizePut]; omega) | fail) only [GS1, GS2, GS3, GS4, GS5, GS6, GS7, GS8, GS9, GS10, TT_eq, TTl, Nat.reduceAdd, Nat.reduceMul, Nat.reduceSub, Nat.reduceDiv, Nat.reduceMod, Nat.reducePow, Nat.reduceEqDiff, ↓reduceIte, reduceCtorEq, true_and, and_true, and_self, false_and, and_false, Int.reduceToNat, Int.reduceAdd, Int.reduceSub, Int.reduceMul, cond_true, cond_false, List.toList_toArray, Option.map_some, Option.map_none, Option.some.injEq, List.cons_append, List.nil_append, List.length_cons, List.length_nil, List.getD_cons_zero, List.getD_cons_succ]
  refine ⟨fok13, kSeal_cps a b _ _ (hg.mod hM1 (by simp)) fun w2 hM2 => .inl ⟨_, rfl, hold_ops okT (rs := [.tmp 6]) rfl ?_⟩⟩
  rw [hkA]
  have hM := hM1.trans hM2 (by simp)
  have ho2 := ownsRow_mod' ho hM (by simp)
  have hz := hM.size
  simp (config := { maxSteps := 1000000 }) (disch := first | omega | (simp only [sizeAlloc, sizeDrew, sizeSet, sizePut]; omega) | fail) only [GS1, GS2, GS3, GS4, GS5, GS6, GS7, GS8, GS9, GS10, TT_eq, TTl, Nat.reduceAdd, Nat.reduceMul, Nat.reduceSub, Nat.reduceDiv, Nat.reduceMod, Nat.reducePow, Nat.reduceEqDiff, ↓reduceIte, reduceCtorEq, true_and, and_true, and_self, false_and, and_false, Int.reduceToNat, Int.reduceAdd, Int.reduceSub, Int.reduceMul, cond_true, cond_false, List.toList_toArray, Option.map_some, Option.map_none, Option.some.injEq, List.cons_append, List.nil_append, List.length_cons, List.length_nil, List.getD_cons_zero, List.getD_cons_succ]
  refine hold_appendN okT (by rfl) (by rfl) (by rfl) (by rfl) (by decide) base ho2 (by rfl) (by rfl) (by rfl) (by decide) (by intro u hu; simp at hu; rcases hu with rfl | rfl <;> rfl) (Nat.le_trans (Nat.mul_le_mul_right _ (show xs.length + 2 ≤ 1000002 by omega)) (by decide)) (by unfold maxLen; omega) (by omega) fun sv' w3 hown3 hM3 hnn => ?_
  refine hold_ops okT (rs := [.tmp 6]) rfl ?_
  simp (config := { maxSteps := 1000000 }) (disch := first | omega | (simp only [sizeAlloc, sizeDrew, sizeSet, sizePut]; omega) | fail) only [GS1, GS2, GS3, GS4, GS5, GS6, GS7, GS8, GS9, GS10, TT_eq, TTl, Nat.reduceAdd, Nat.reduceMul, Nat.reduceSub, Nat.reduceDiv, Nat.reduceMod, Nat.reducePow, Nat.reduceEqDiff, ↓reduceIte, reduceCtorEq, true_and, and_true, and_self, false_and, and_false, Int.reduceToNat, Int.reduceAdd, Int.reduceSub, Int.reduceMul, cond_true, cond_false, List.toList_toArray, Option.map_some, Option.map_none, Option.some.injEq, List.cons_append, List.nil_append, List.length_cons, List.length_nil, List.getD_cons_zero, List.getD_cons_succ]
  refine hR _ _ ?_ ((hM.mono (by simp)).trans hM3 (fun x hx => .inl hx))
  rw [List.length_append, List.map_append]
  exact hown3
end Go.Proofs.YtbdiihilbcinpaaDoor
