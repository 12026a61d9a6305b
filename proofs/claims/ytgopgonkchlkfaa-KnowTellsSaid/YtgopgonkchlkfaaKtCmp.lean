/-
  Rows of texts that are the same; whether a text stands in a row (walks).
-/
import Derived.Test.YtgopgonkchlkfaaKtB4
set_option linter.unusedSimpArgs false
set_option linter.unusedVariables false
set_option maxRecDepth 20000
namespace Go.Proofs.Ytgopgonkchlkfaa
open Go Go.Wk Go.RowKit
attribute [local irreducible] go Hold
open Go.Lib
set_option maxRecDepth 20000 in
set_option maxHeartbeats 1000000 in
theorem Same_cps (sa sb : Value) (xs ys : List (List UInt8)) (w : World) (R : Ending → World → Prop) (hx : xs.length ≤ 9223372036854775807) (ha : Rd w 1 sa xs.length (xs.map strV)) (hb : Rd w 1 sb ys.length (ys.map strV))
    (hR : ∀ n, R (.returned (.bool (decide (xs = ys)))) (w.drewN n)) : Calls Try.prog 41 #[sa, sb] w R := by
  have hR0 := hR 0
  rw [World.drewN_zero] at hR0
  have hl2 := hx
  by_cases hl : xs.length = ys.length
  · obtain ⟨a, ca, rfl⟩ := ha.slice
    obtain ⟨b, cb, rfl⟩ := hb.slice
    refine calls_go 4000 okT Try.func41 rfl (rs := [.tmp 4]) rfl Try.ntmps41 (args := [.slice a xs.length ca, .slice b ys.length cb]) ?_
    simp (maxSteps := 1000000) (disch := first | omega | (simp only [sizeAlloc, sizeDrew, sizeSet, sizePut] <;> omega) | fail) only [GS, TT_eq, TTl, Nat.reduceAdd, Nat.reduceMul, Nat.reduceSub, Nat.reduceDiv, Nat.reduceMod, Nat.reducePow, Nat.reduceEqDiff, ↓reduceIte, reduceCtorEq, Int.reduceToNat, Int.reduceAdd, Int.reduceSub, Int.reduceMul]
    refine hold_loop okT (rs := [.tmp 4]) rfl [5] [4, 11, 12, 13, 14, 15, 16, 17, 18, 19, 20, 21, 22, 23, 24, 25] (fun vs w' => ∃ k n : Nat, k ≤ xs.length ∧ vs = [.int .i64 k] ∧ w' = w.drewN n ∧ xs.take k = ys.take k) (fun vs _ => match vs with | [.int _ i] => xs.length - i.toNat | _ => 0) (by kernel_rfl) ⟨0, 0, by omega, rfl, rfl, by simp⟩ ?_
    rintro vs w' J ⟨k, n, hk, rfl, rfl, ht⟩
    by_cases hlt : k < xs.length
    · obtain ⟨b1, o1, c1, e1, _, g1⟩ := ha.at (by omega) (by omega)
      obtain ⟨b2, o2, c2, e2, _, g2⟩ := hb.at (by omega) (by omega)
      have f1 := g1 k _ (getS hlt)
      have f2 := g2 k _ (getS (hl ▸ hlt))
      rw [Value.slice.injEq] at e1 e2
      obtain ⟨rfl, -, -⟩ := e1
      obtain ⟨rfl, -, -⟩ := e2
      by_cases he : xs[k] = ys[k]
      · simp (maxSteps := 1000000) (disch := first | omega | (simp only [sizeAlloc, sizeDrew, sizeSet, sizePut] <;> omega) | fail) only [GS, TT_eq, TTl, Nat.reduceAdd, Nat.reduceMul, Nat.reduceSub, Nat.reduceDiv, Nat.reduceMod, Nat.reducePow, Nat.reduceEqDiff, ↓reduceIte, reduceCtorEq, Int.reduceToNat, Int.reduceAdd, Int.reduceSub, Int.reduceMul, f1, f2, he]
        refine ⟨by kernel_rfl, fun m => ⟨⟨k + 1, n + m, by omega, rfl, rfl, ?_⟩, by omega⟩⟩
        rw [List.take_succ_eq_append_getElem hlt, List.take_succ_eq_append_getElem (hl ▸ hlt), ht, he]
      · simp (maxSteps := 1000000) (disch := first | omega | (simp only [sizeAlloc, sizeDrew, sizeSet, sizePut] <;> omega) | fail) only [GS, TT_eq, TTl, Nat.reduceAdd, Nat.reduceMul, Nat.reduceSub, Nat.reduceDiv, Nat.reduceMod, Nat.reducePow, Nat.reduceEqDiff, ↓reduceIte, reduceCtorEq, Int.reduceToNat, Int.reduceAdd, Int.reduceSub, Int.reduceMul, f1, f2, he]
        rw [decide_eq_false (fun e => he (by subst e; rfl))] at hR
        exact ⟨by kernel_rfl, fun m => hR _⟩
    · have e : k = xs.length := by omega
      subst e
      have e2 : xs = ys := by rw [List.take_length] at ht; rw [ht, hl, List.take_length]
      simp (maxSteps := 1000000) (disch := first | omega | (simp only [sizeAlloc, sizeDrew, sizeSet, sizePut] <;> omega) | fail) only [GS, TT_eq, TTl, Nat.reduceAdd, Nat.reduceMul, Nat.reduceSub, Nat.reduceDiv, Nat.reduceMod, Nat.reducePow, Nat.reduceEqDiff, ↓reduceIte, reduceCtorEq, Int.reduceToNat, Int.reduceAdd, Int.reduceSub, Int.reduceMul]
      rw [decide_eq_true e2] at hR
      exact hR n
  · obtain ⟨a, ca, rfl⟩ := ha.slice
    obtain ⟨b, cb, rfl⟩ := hb.slice
    refine calls_go 4000 okT Try.func41 rfl (rs := [.tmp 4]) rfl Try.ntmps41 (args := [.slice a xs.length ca, .slice b ys.length cb]) ?_
    simp (maxSteps := 1000000) (disch := first | omega | (simp only [sizeAlloc, sizeDrew, sizeSet, sizePut] <;> omega) | fail) only [GS, TT_eq, TTl, Nat.reduceAdd, Nat.reduceMul, Nat.reduceSub, Nat.reduceDiv, Nat.reduceMod, Nat.reducePow, Nat.reduceEqDiff, ↓reduceIte, reduceCtorEq, Int.reduceToNat, Int.reduceAdd, Int.reduceSub, Int.reduceMul]
    rw [decide_eq_false (fun e => hl (by rw [e]))] at hR0
    exact hR0
set_option maxRecDepth 20000 in
set_option maxHeartbeats 1000000 in
theorem InL_cps (sa : Value) (xs : List (List UInt8)) (s : List UInt8) (w : World) (R : Ending → World → Prop) (hx : xs.length ≤ 9223372036854775807) (ha : Rd w 1 sa xs.length (xs.map strV))
    (hR : R (.returned (.bool (decide (s ∈ xs)))) w) : Calls Try.prog 103 #[sa, .string ⟨s.toArray⟩] w R := by
  obtain ⟨a, ca, rfl⟩ := ha.slice
  refine calls_go 4000 okT Try.func103 rfl (rs := [.tmp 4]) rfl Try.ntmps103 (args := [.slice a xs.length ca, .string ⟨s.toArray⟩]) ?_
  simp (maxSteps := 1000000) (disch := first | omega | (simp only [sizeAlloc, sizeDrew, sizeSet, sizePut] <;> omega) | fail) only [GS, TT_eq, TTl, Nat.reduceAdd, Nat.reduceMul, Nat.reduceSub, Nat.reduceDiv, Nat.reduceMod, Nat.reducePow, Nat.reduceEqDiff, ↓reduceIte, reduceCtorEq, Int.reduceToNat, Int.reduceAdd, Int.reduceSub, Int.reduceMul]
  refine hold_loop okT (rs := [.tmp 4]) rfl [5] [4, 6, 7, 8, 9, 10, 11, 12, 13, 14, 15, 16, 17] (fun vs w' => ∃ k : Nat, k ≤ xs.length ∧ vs = [.int .i64 k] ∧ w' = w ∧ s ∉ xs.take k) (fun vs _ => match vs with | [.int _ i] => xs.length - i.toNat | _ => 0) (by kernel_rfl) ⟨0, by omega, rfl, rfl, by simp⟩ ?_
  rintro vs w' J ⟨k, hk, rfl, rfl, hn⟩
  by_cases hlt : k < xs.length
  · obtain ⟨b1, o1, c1, e1, _, g1⟩ := ha.at (by omega) (by omega)
    have f1 := g1 k _ (getS hlt)
    rw [Value.slice.injEq] at e1
    obtain ⟨rfl, -, -⟩ := e1
    by_cases he : xs[k] = s
    · simp (maxSteps := 1000000) (disch := first | omega | (simp only [sizeAlloc, sizeDrew, sizeSet, sizePut] <;> omega) | fail) only [GS, TT_eq, TTl, Nat.reduceAdd, Nat.reduceMul, Nat.reduceSub, Nat.reduceDiv, Nat.reduceMod, Nat.reducePow, Nat.reduceEqDiff, ↓reduceIte, reduceCtorEq, Int.reduceToNat, Int.reduceAdd, Int.reduceSub, Int.reduceMul, f1, he]
      rw [decide_eq_true (by rw [← he]; exact List.getElem_mem hlt)] at hR
      exact hR
    · simp (maxSteps := 1000000) (disch := first | omega | (simp only [sizeAlloc, sizeDrew, sizeSet, sizePut] <;> omega) | fail) only [GS, TT_eq, TTl, Nat.reduceAdd, Nat.reduceMul, Nat.reduceSub, Nat.reduceDiv, Nat.reduceMod, Nat.reducePow, Nat.reduceEqDiff, ↓reduceIte, reduceCtorEq, Int.reduceToNat, Int.reduceAdd, Int.reduceSub, Int.reduceMul, f1, he]
      refine ⟨⟨k + 1, by omega, rfl, ?_⟩, by omega⟩
      rw [List.take_succ_eq_append_getElem hlt]
      intro hm
      rcases List.mem_append.1 hm with hm | hm
      · exact hn hm
      · simp only [List.mem_singleton] at hm; exact he hm.symm
  · have e : k = xs.length := by omega
    subst e
    rw [List.take_length] at hn
    rw [decide_eq_false hn] at hR
    simp (maxSteps := 1000000) (disch := first | omega | (simp only [sizeAlloc, sizeDrew, sizeSet, sizePut] <;> omega) | fail) only [GS, TT_eq, TTl, Nat.reduceAdd, Nat.reduceMul, Nat.reduceSub, Nat.reduceDiv, Nat.reduceMod, Nat.reducePow, Nat.reduceEqDiff, ↓reduceIte, reduceCtorEq, Int.reduceToNat, Int.reduceAdd, Int.reduceSub, Int.reduceMul]
    exact hR
end Go.Proofs.Ytgopgonkchlkfaa
