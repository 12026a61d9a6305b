/-
  The reference's window: its functions (walks).
-/
import Derived.Test.YtechabbdobbooaaPlayP
import Derived.Test.YtechabbdobbooaaRd
set_option linter.unusedSimpArgs false
set_option linter.unusedVariables false
namespace Go.Proofs.Ytechabbdobbooaa
open Go Go.Wk Go.RowKit
attribute [local irreducible] go Hold
theorem heap_ne {w : World} {a b e e' : Nat} {c c' : Array Value} {f f' : Nat × Nat} (h : w.heap[a]? = some (.cells c e f)) (h' : w.heap[b]? = some (.cells c' e' f')) (hn : e ≠ e') : a ≠ b := by
  rintro rfl
  rw [h] at h'
  simp only [Option.some.injEq, Obj.cells.injEq] at h'
  exact hn h'.2.1
/-- A window of the reference in memory. -/
structure RW (w : World) (base rw : Nat) (sv : Value) (xs : List Int) : Prop where
  c : w.heap[rw]? = some (.cells #[sv] 67 (0, 0))
  o : w.ownsRow base 3 1 sv xs.length (xs.map (Value.int .i64))
theorem RW.mod {S : List Nat} {w w' : World} {base rw : Nat} {sv : Value} {xs : List Int} (h : RW w base rw sv xs) (hm : Mod S w w') (h1 : rw ∉ S) (h2 : ∀ g, sv.ownBlock = some g → g ∉ S) : RW w' base rw sv xs := ⟨hm.get h.c h1, ownsRow_mod' h.o hm h2⟩
set_option maxHeartbeats 1000000 in
theorem rTop_cps (rw base : Nat) (sv : Value) (xs : List Int) (w : World) (R : Ending → World → Prop) (h : RW w base rw sv xs) (hx : xs.length ≤ 1000000) (hR : R (.returned (.int .i64 (topL xs))) w) :
    Calls Try.prog 37 #[.pointer (some ⟨rw, 0, none⟩)] w R := by
  obtain ⟨a, ca, rfl⟩ := (Rd.own h.o).slice
  have c0 := cellOf (o := 0) h.c
  refine calls_go 4000 okT Try.func37 rfl (rs := [.tmp 2]) rfl Try.ntmps37 (args := [.pointer (some ⟨rw, 0, none⟩)]) ?_
  simp (config := { maxSteps := 1000000 }) (disch := first | omega | (simp only [sizeAlloc, sizeDrew, sizeSet, sizePut]; omega) | fail) only [GS1, GS2, GS3, GS4, GS5, GS6, GS7, GS8, GS9, GS10, TT_eq, TTl, Nat.reduceAdd, Nat.reduceMul, Nat.reduceSub, Nat.reduceDiv, Nat.reduceMod, Nat.reducePow, Nat.reduceEqDiff, ↓reduceIte, reduceCtorEq, true_and, and_true, and_self, false_and, and_false, Int.reduceToNat, Int.reduceAdd, Int.reduceSub, Int.reduceMul, cond_true, cond_false, List.toList_toArray, Option.map_some, Option.map_none, Option.some.injEq, List.cons_append, List.nil_append]
  refine hold_loop okT (rs := [.tmp 2]) rfl [3, 4] [5, 6, 7, 8, 9, 10, 11, 12, 13, 14, 15, 16, 17, 18, 19, 20, 21, 22] (fun vs w' => ∃ k : Nat, k ≤ xs.length ∧ vs = [.int .i64 (topL (xs.take k)), .int .i64 k] ∧ w' = w) (fun vs _ => match vs with | [_, .int _ i] => xs.length - i.toNat | _ => 0) (by kernel_rfl) ⟨0, by omega, rfl, rfl⟩ ?_
  rintro vs w' J ⟨k, hk, rfl, rfl⟩
  by_cases hlt : k < xs.length
  · obtain ⟨b1, o1, c1, e1, _, g1⟩ := (Rd.own h.o).at (by omega) (by omega)
    have f1 := g1 k _ (getI hlt)
    rw [Value.slice.injEq] at e1
    obtain ⟨rfl, -, -⟩ := e1
    simp (config := { maxSteps := 1000000 }) (disch := first | omega | (simp only [sizeAlloc, sizeDrew, sizeSet, sizePut]; omega) | fail) only [GS1, GS2, GS3, GS4, GS5, GS6, GS7, GS8, GS9, GS10, TT_eq, TTl, Nat.reduceAdd, Nat.reduceMul, Nat.reduceSub, Nat.reduceDiv, Nat.reduceMod, Nat.reducePow, Nat.reduceEqDiff, ↓reduceIte, reduceCtorEq, true_and, and_true, and_self, false_and, and_false, Int.reduceToNat, Int.reduceAdd, Int.reduceSub, Int.reduceMul, cond_true, cond_false, List.toList_toArray, Option.map_some, Option.map_none, Option.some.injEq, List.cons_append, List.nil_append, c0, f1]
    refine ⟨⟨k + 1, by omega, ?_⟩, by omega⟩
    rw [List.take_succ_eq_append_getElem hlt, topL_snoc]; rfl
  · have e : k = xs.length := by omega
    subst e
    rw [List.take_length]
    simp (config := { maxSteps := 1000000 }) (disch := first | omega | (simp only [sizeAlloc, sizeDrew, sizeSet, sizePut]; omega) | fail) only [GS1, GS2, GS3, GS4, GS5, GS6, GS7, GS8, GS9, GS10, TT_eq, TTl, Nat.reduceAdd, Nat.reduceMul, Nat.reduceSub, Nat.reduceDiv, Nat.reduceMod, Nat.reducePow, Nat.reduceEqDiff, ↓reduceIte, reduceCtorEq, true_and, and_true, and_self, false_and, and_false, Int.reduceToNat, Int.reduceAdd, Int.reduceSub, Int.reduceMul, cond_true, cond_false, List.toList_toArray, Option.map_some, Option.map_none, Option.some.injEq, List.cons_append, List.nil_append, c0]
    exact hR
set_option maxHeartbeats 1000000 in
theorem rHas_cps (rw base : Nat) (sv : Value) (xs : List Int) (n : Int) (w : World) (R : Ending → World → Prop) (h : RW w base rw sv xs) (hx : xs.length ≤ 1000000) (hR : R (.returned (.bool (decide (n ∈ xs)))) w) :
    Calls Try.prog 38 #[.pointer (some ⟨rw, 0, none⟩), .int .i64 n] w R := by
  obtain ⟨a, ca, rfl⟩ := (Rd.own h.o).slice
  have c0 := cellOf (o := 0) h.c
  refine calls_go 4000 okT Try.func38 rfl (rs := [.tmp 4]) rfl Try.ntmps38 (args := [.pointer (some ⟨rw, 0, none⟩), .int .i64 n]) ?_
  simp (config := { maxSteps := 1000000 }) (disch := first | omega | (simp only [sizeAlloc, sizeDrew, sizeSet, sizePut]; omega) | fail) only [GS1, GS2, GS3, GS4, GS5, GS6, GS7, GS8, GS9, GS10, TT_eq, TTl, Nat.reduceAdd, Nat.reduceMul, Nat.reduceSub, Nat.reduceDiv, Nat.reduceMod, Nat.reducePow, Nat.reduceEqDiff, ↓reduceIte, reduceCtorEq, true_and, and_true, and_self, false_and, and_false, Int.reduceToNat, Int.reduceAdd, Int.reduceSub, Int.reduceMul, cond_true, cond_false, List.toList_toArray, Option.map_some, Option.map_none, Option.some.injEq, List.cons_append, List.nil_append]
  refine hold_loop okT (rs := [.tmp 4]) rfl [5] [4, 6, 7, 8, 9, 10, 11, 12, 13, 14, 15, 16, 17, 18, 19, 20, 21, 22, 23] (fun vs w' => ∃ k : Nat, k ≤ xs.length ∧ vs = [.int .i64 k] ∧ w' = w ∧ n ∉ xs.take k) (fun vs _ => match vs with | [.int _ i] => xs.length - i.toNat | _ => 0) (by kernel_rfl) ⟨0, by omega, rfl, rfl, by simp⟩ ?_
  rintro vs w' J ⟨k, hk, rfl, rfl, hn⟩
  by_cases hlt : k < xs.length
  · obtain ⟨b1, o1, c1, e1, _, g1⟩ := (Rd.own h.o).at (by omega) (by omega)
    have f1 := g1 k _ (getI hlt)
    rw [Value.slice.injEq] at e1
    obtain ⟨rfl, -, -⟩ := e1
    by_cases he : xs[k] = n
    · simp (config := { maxSteps := 1000000 }) (disch := first | omega | (simp only [sizeAlloc, sizeDrew, sizeSet, sizePut]; omega) | fail) only [GS1, GS2, GS3, GS4, GS5, GS6, GS7, GS8, GS9, GS10, TT_eq, TTl, Nat.reduceAdd, Nat.reduceMul, Nat.reduceSub, Nat.reduceDiv, Nat.reduceMod, Nat.reducePow, Nat.reduceEqDiff, ↓reduceIte, reduceCtorEq, true_and, and_true, and_self, false_and, and_false, Int.reduceToNat, Int.reduceAdd, Int.reduceSub, Int.reduceMul, cond_true, cond_false, List.toList_toArray, Option.map_some, Option.map_none, Option.some.injEq, List.cons_append, List.nil_append, c0, f1, he]
      rw [decide_eq_true (by rw [← he]; exact List.getElem_mem hlt)] at hR
      exact hR
    · simp (config := { maxSteps := 1000000 }) (disch := first | omega | (simp only [sizeAlloc, sizeDrew, sizeSet, sizePut]; omega) | fail) only [GS1, GS2, GS3, GS4, GS5, GS6, GS7, GS8, GS9, GS10, TT_eq, TTl, Nat.reduceAdd, Nat.reduceMul, Nat.reduceSub, Nat.reduceDiv, Nat.reduceMod, Nat.reducePow, Nat.reduceEqDiff, ↓reduceIte, reduceCtorEq, true_and, and_true, and_self, false_and, and_false, Int.reduceToNat, Int.reduceAdd, Int.reduceSub, Int.reduceMul, cond_true, cond_false, List.toList_toArray, Option.map_some, Option.map_none, Option.some.injEq, List.cons_append, List.nil_append, c0, f1, he]
      refine ⟨⟨k + 1, by omega, rfl, ?_⟩, by omega⟩
      rw [List.take_succ_eq_append_getElem hlt]
      intro hm
      rcases List.mem_append.1 hm with hm | hm
      · exact hn hm
      · simp only [List.mem_singleton] at hm; exact he hm.symm
  · have e : k = xs.length := by omega
    subst e
    rw [List.take_length] at hn
    rw [decide_eq_false hn] at hR
    simp (config := { maxSteps := 1000000 }) (disch := first | omega | (simp only [sizeAlloc, sizeDrew, sizeSet, sizePut]; omega) | fail) only [GS1, GS2, GS3, GS4, GS5, GS6, GS7, GS8, GS9, GS10, TT_eq, TTl, Nat.reduceAdd, Nat.reduceMul, Nat.reduceSub, Nat.reduceDiv, Nat.reduceMod, Nat.reducePow, Nat.reduceEqDiff, ↓reduceIte, reduceCtorEq, true_and, and_true, and_self, false_and, and_false, Int.reduceToNat, Int.reduceAdd, Int.reduceSub, Int.reduceMul, cond_true, cond_false, List.toList_toArray, Option.map_some, Option.map_none, Option.some.injEq, List.cons_append, List.nil_append, c0]
    exact hR
set_option maxHeartbeats 1000000 in
theorem rMay_cps (rw base : Nat) (sv : Value) (xs : List Int) (n : Int) (w : World) (R : Ending → World → Prop) (h : RW w base rw sv xs) (hx : xs.length ≤ 1000000) (ht : 0 ≤ topL xs ∧ topL xs ≤ 65535) (hR : R (.returned (.int .i64 (mayR xs n))) w) :
    Calls Try.prog 40 #[.pointer (some ⟨rw, 0, none⟩), .int .i64 n] w R := by
  unfold mayR at hR
  by_cases h1 : n < 1
  · rw [if_pos h1] at hR
    refine calls_go 4000 okT Try.func40 rfl (rs := [.tmp 4]) rfl Try.ntmps40 (args := [.pointer (some ⟨rw, 0, none⟩), .int .i64 n]) ?_
    simp (config := { maxSteps := 1000000 }) (disch := first | omega | (simp only [sizeAlloc, sizeDrew, sizeSet, sizePut]; omega) | fail) only [GS1, GS2, GS3, GS4, GS5, GS6, GS7, GS8, GS9, GS10, TT_eq, TTl, Nat.reduceAdd, Nat.reduceMul, Nat.reduceSub, Nat.reduceDiv, Nat.reduceMod, Nat.reducePow, Nat.reduceEqDiff, ↓reduceIte, reduceCtorEq, true_and, and_true, and_self, false_and, and_false, Int.reduceToNat, Int.reduceAdd, Int.reduceSub, Int.reduceMul, cond_true, cond_false, List.toList_toArray, Option.map_some, Option.map_none, Option.some.injEq, List.cons_append, List.nil_append]
    exact hR
  rw [if_neg h1] at hR
  by_cases h2 : 65535 < n
  · rw [if_pos h2] at hR
    refine calls_go 4000 okT Try.func40 rfl (rs := [.tmp 4]) rfl Try.ntmps40 (args := [.pointer (some ⟨rw, 0, none⟩), .int .i64 n]) ?_
    simp (config := { maxSteps := 1000000 }) (disch := first | omega | (simp only [sizeAlloc, sizeDrew, sizeSet, sizePut]; omega) | fail) only [GS1, GS2, GS3, GS4, GS5, GS6, GS7, GS8, GS9, GS10, TT_eq, TTl, Nat.reduceAdd, Nat.reduceMul, Nat.reduceSub, Nat.reduceDiv, Nat.reduceMod, Nat.reducePow, Nat.reduceEqDiff, ↓reduceIte, reduceCtorEq, true_and, and_true, and_self, false_and, and_false, Int.reduceToNat, Int.reduceAdd, Int.reduceSub, Int.reduceMul, cond_true, cond_false, List.toList_toArray, Option.map_some, Option.map_none, Option.some.injEq, List.cons_append, List.nil_append]
    exact hR
  rw [if_neg h2] at hR
  refine calls_go 4000 okT Try.func40 rfl (rs := [.tmp 4]) rfl Try.ntmps40 (args := [.pointer (some ⟨rw, 0, none⟩), .int .i64 n]) ?_
  simp (config := { maxSteps := 1000000 }) (disch := first | omega | (simp only [sizeAlloc, sizeDrew, sizeSet, sizePut]; omega) | fail) only [GS1, GS2, GS3, GS4, GS5, GS6, GS7, GS8, GS9, GS10, TT_eq, TTl, Nat.reduceAdd, Nat.reduceMul, Nat.reduceSub, Nat.reduceDiv, Nat.reduceMod, Nat.reducePow, Nat.reduceEqDiff, ↓reduceIte, reduceCtorEq, true_and, and_true, and_self, false_and, and_false, Int.reduceToNat, Int.reduceAdd, Int.reduceSub, Int.reduceMul, cond_true, cond_false, List.toList_toArray, Option.map_some, Option.map_none, Option.some.injEq, List.cons_append, List.nil_append]
  refine ⟨fok37, rTop_cps rw base sv xs _ _ h hx (.inl ⟨_, rfl, hold_ops okT (rs := [.tmp 4]) rfl ?_⟩)⟩
  by_cases h3 : 64 ≤ topL xs - n
  · rw [if_pos h3] at hR
    simp (config := { maxSteps := 1000000 }) (disch := first | omega | (simp only [sizeAlloc, sizeDrew, sizeSet, sizePut]; omega) | fail) only [GS1, GS2, GS3, GS4, GS5, GS6, GS7, GS8, GS9, GS10, TT_eq, TTl, Nat.reduceAdd, Nat.reduceMul, Nat.reduceSub, Nat.reduceDiv, Nat.reduceMod, Nat.reducePow, Nat.reduceEqDiff, ↓reduceIte, reduceCtorEq, true_and, and_true, and_self, false_and, and_false, Int.reduceToNat, Int.reduceAdd, Int.reduceSub, Int.reduceMul, cond_true, cond_false, List.toList_toArray, Option.map_some, Option.map_none, Option.some.injEq, List.cons_append, List.nil_append]
    exact hR
  rw [if_neg h3] at hR
  simp (config := { maxSteps := 1000000 }) (disch := first | omega | (simp only [sizeAlloc, sizeDrew, sizeSet, sizePut]; omega) | fail) only [GS1, GS2, GS3, GS4, GS5, GS6, GS7, GS8, GS9, GS10, TT_eq, TTl, Nat.reduceAdd, Nat.reduceMul, Nat.reduceSub, Nat.reduceDiv, Nat.reduceMod, Nat.reducePow, Nat.reduceEqDiff, ↓reduceIte, reduceCtorEq, true_and, and_true, and_self, false_and, and_false, Int.reduceToNat, Int.reduceAdd, Int.reduceSub, Int.reduceMul, cond_true, cond_false, List.toList_toArray, Option.map_some, Option.map_none, Option.some.injEq, List.cons_append, List.nil_append]
  refine ⟨fok38, rHas_cps rw base sv xs n _ _ h hx (.inl ⟨_, rfl, hold_ops okT (rs := [.tmp 4]) rfl ?_⟩)⟩
  by_cases h4 : n ∈ xs
  · rw [if_pos h4] at hR
    rw [decide_eq_true h4]
    simp (config := { maxSteps := 1000000 }) (disch := first | omega | (simp only [sizeAlloc, sizeDrew, sizeSet, sizePut]; omega) | fail) only [GS1, GS2, GS3, GS4, GS5, GS6, GS7, GS8, GS9, GS10, TT_eq, TTl, Nat.reduceAdd, Nat.reduceMul, Nat.reduceSub, Nat.reduceDiv, Nat.reduceMod, Nat.reducePow, Nat.reduceEqDiff, ↓reduceIte, reduceCtorEq, true_and, and_true, and_self, false_and, and_false, Int.reduceToNat, Int.reduceAdd, Int.reduceSub, Int.reduceMul, cond_true, cond_false, List.toList_toArray, Option.map_some, Option.map_none, Option.some.injEq, List.cons_append, List.nil_append]
    exact hR
  · rw [if_neg h4] at hR
    rw [decide_eq_false h4]
    simp (config := { maxSteps := 1000000 }) (disch := first | omega | (simp only [sizeAlloc, sizeDrew, sizeSet, sizePut]; omega) | fail) only [GS1, GS2, GS3, GS4, GS5, GS6, GS7, GS8, GS9, GS10, TT_eq, TTl, Nat.reduceAdd, Nat.reduceMul, Nat.reduceSub, Nat.reduceDiv, Nat.reduceMod, Nat.reducePow, Nat.reduceEqDiff, ↓reduceIte, reduceCtorEq, true_and, and_true, and_self, false_and, and_false, Int.reduceToNat, Int.reduceAdd, Int.reduceSub, Int.reduceMul, cond_true, cond_false, List.toList_toArray, Option.map_some, Option.map_none, Option.some.injEq, List.cons_append, List.nil_append]
    exact hR
set_option maxHeartbeats 1000000 in
theorem rTake_cps (rw base : Nat) (sv : Value) (xs : List Int) (n : Int) (w : World) (R : Ending → World → Prop) (h : RW w base rw sv xs) (hb : base ≤ w.heap.size) (hx : xs.length ≤ 1000000) (ht : 0 ≤ topL xs ∧ topL xs ≤ 65535)
    (hR : ∀ w' sv', RW w' base rw sv' (if mayR xs n = 0 then xs ++ [n] else xs) → Mod (rw :: sv.ownBlock.toList) w w' → R (.returned (.int .i64 (mayR xs n))) w') :
    Calls Try.prog 35 #[.pointer (some ⟨rw, 0, none⟩), .int .i64 n] w R := by
  have c0 := cellOf (o := 0) h.c
  refine calls_go 4000 okT Try.func35 rfl (rs := [.tmp 4]) rfl Try.ntmps35 (args := [.pointer (some ⟨rw, 0, none⟩), .int .i64 n]) ?_
  simp (config := { maxSteps := 1000000 }) (disch := first | omega | (simp only [sizeAlloc, sizeDrew, sizeSet, sizePut]; omega) | fail) only [GS1, GS2, GS3, GS4, GS5, GS6, GS7, GS8, GS9, GS10, TT_eq, TTl, Nat.reduceAdd, Nat.reduceMul, Nat.reduceSub, Nat.reduceDiv, Nat.reduceMod, Nat.reducePow, Nat.reduceEqDiff, ↓reduceIte, reduceCtorEq, true_and, and_true, and_self, false_and, and_false, Int.reduceToNat, Int.reduceAdd, Int.reduceSub, Int.reduceMul, cond_true, cond_false, List.toList_toArray, Option.map_some, Option.map_none, Option.some.injEq, List.cons_append, List.nil_append]
  refine ⟨fok40, rMay_cps rw base sv xs n _ _ h hx ht (.inl ⟨_, rfl, hold_ops okT (rs := [.tmp 4]) rfl ?_⟩)⟩
  by_cases hm : mayR xs n = 0
  · rw [if_pos hm] at hR
    rw [hm] at hR ⊢
    simp (config := { maxSteps := 1000000 }) (disch := first | omega | (simp only [sizeAlloc, sizeDrew, sizeSet, sizePut]; omega) | fail) only [GS1, GS2, GS3, GS4, GS5, GS6, GS7, GS8, GS9, GS10, TT_eq, TTl, Nat.reduceAdd, Nat.reduceMul, Nat.reduceSub, Nat.reduceDiv, Nat.reduceMod, Nat.reducePow, Nat.reduceEqDiff, ↓reduceIte, reduceCtorEq, true_and, and_true, and_self, false_and, and_false, Int.reduceToNat, Int.reduceAdd, Int.reduceSub, Int.reduceMul, cond_true, cond_false, List.toList_toArray, Option.map_some, Option.map_none, Option.some.injEq, List.cons_append, List.nil_append, c0]
    refine hold_append1 okT (by rfl) (by rfl) (by rfl) (by rfl) (by rfl) base h.o (by rfl) (by rfl) (by rfl) (Nat.le_trans (Nat.mul_le_mul_right _ (show xs.length + 1 ≤ 1000001 by omega)) (by decide)) (by unfold maxLen; omega) hb fun sv' w3 hown3 hM3 hnn => ?_
    refine hold_ops okT (rs := [.tmp 4]) rfl ?_
    have hne : ∀ g, sv.ownBlock = some g → rw ≠ g := fun g hg => (own_ne h.o h.c (by decide) g hg).symm
    have hc3 := hM3.get h.c (by intro hx; exact hne rw (by simpa using hx) rfl)
    have d0 := cellOf (o := 0) hc3; have e0 := frozenOf (o := 0) hc3
    obtain ⟨a', ca', rfl⟩ := (Rd.own hown3).slice
    simp (config := { maxSteps := 1000000 }) (disch := first | omega | (simp only [sizeAlloc, sizeDrew, sizeSet, sizePut]; omega) | fail) only [GS1, GS2, GS3, GS4, GS5, GS6, GS7, GS8, GS9, GS10, TT_eq, TTl, Nat.reduceAdd, Nat.reduceMul, Nat.reduceSub, Nat.reduceDiv, Nat.reduceMod, Nat.reducePow, Nat.reduceEqDiff, ↓reduceIte, reduceCtorEq, true_and, and_true, and_self, false_and, and_false, Int.reduceToNat, Int.reduceAdd, Int.reduceSub, Int.reduceMul, cond_true, cond_false, List.toList_toArray, Option.map_some, Option.map_none, Option.some.injEq, List.cons_append, List.nil_append, d0, e0]
    refine hR _ _ ⟨heapSet hc3, ?_⟩ ((hM3.mono (by intro x hx; simp at hx; simp [hx])).set (.inl (by simp)) _)
    rw [List.length_append, List.map_append]
    refine ownsRow_mod' hown3 ((Mod.refl [rw] _).set (.inl (by simp)) _) fun g hg => ?_
    have := own_ne hown3 hc3 (by decide) g hg
    simpa using this
  · rw [if_neg hm] at hR
    simp (config := { maxSteps := 1000000 }) (disch := first | omega | (simp only [sizeAlloc, sizeDrew, sizeSet, sizePut]; omega) | fail) only [GS1, GS2, GS3, GS4, GS5, GS6, GS7, GS8, GS9, GS10, TT_eq, TTl, Nat.reduceAdd, Nat.reduceMul, Nat.reduceSub, Nat.reduceDiv, Nat.reduceMod, Nat.reducePow, Nat.reduceEqDiff, ↓reduceIte, reduceCtorEq, true_and, and_true, and_self, false_and, and_false, Int.reduceToNat, Int.reduceAdd, Int.reduceSub, Int.reduceMul, cond_true, cond_false, List.toList_toArray, Option.map_some, Option.map_none, Option.some.injEq, List.cons_append, List.nil_append, hm]
    exact hR _ _ h (Mod.refl _ _)
set_option maxHeartbeats 2000000 in
theorem rList_cps (rw base : Nat) (sv : Value) (xs : List Int) (w : World) (R : Ending → World → Prop) (h : RW w base rw sv xs) (hx : xs.length ≤ 1000000) (ht : 0 ≤ topL xs ∧ topL xs ≤ 65535)
    (hR : ∀ sr w', w'.ownsRow w.heap.size 3 1 sr (listR xs).length ((listR xs).map (Value.int .i64)) → Mod [] w w' → R (.returned sr) w') :
    Calls Try.prog 26 #[.pointer (some ⟨rw, 0, none⟩)] w R := by
  refine calls_go 4000 okT Try.func26 rfl (rs := [.tmp 2]) rfl Try.ntmps26 (args := [.pointer (some ⟨rw, 0, none⟩)]) ?_
  simp (config := { maxSteps := 1000000 }) (disch := first | omega | (simp only [sizeAlloc, sizeDrew, sizeSet, sizePut]; omega) | fail) only [GS1, GS2, GS3, GS4, GS5, GS6, GS7, GS8, GS9, GS10, TT_eq, TTl, Nat.reduceAdd, Nat.reduceMul, Nat.reduceSub, Nat.reduceDiv, Nat.reduceMod, Nat.reducePow, Nat.reduceEqDiff, ↓reduceIte, reduceCtorEq, true_and, and_true, and_self, false_and, and_false, Int.reduceToNat, Int.reduceAdd, Int.reduceSub, Int.reduceMul, cond_true, cond_false, List.toList_toArray, Option.map_some, Option.map_none, Option.some.injEq, List.cons_append, List.nil_append]
  refine ⟨fok37, rTop_cps rw base sv xs _ _ h hx (.inl ⟨_, rfl, hold_ops okT (rs := [.tmp 2]) rfl ?_⟩)⟩
  simp (config := { maxSteps := 1000000 }) (disch := first | omega | (simp only [sizeAlloc, sizeDrew, sizeSet, sizePut]; omega) | fail) only [GS1, GS2, GS3, GS4, GS5, GS6, GS7, GS8, GS9, GS10, TT_eq, TTl, Nat.reduceAdd, Nat.reduceMul, Nat.reduceSub, Nat.reduceDiv, Nat.reduceMod, Nat.reducePow, Nat.reduceEqDiff, ↓reduceIte, reduceCtorEq, true_and, and_true, and_self, false_and, and_false, Int.reduceToNat, Int.reduceAdd, Int.reduceSub, Int.reduceMul, cond_true, cond_false, List.toList_toArray, Option.map_some, Option.map_none, Option.some.injEq, List.cons_append, List.nil_append]
  generalize hT : topL xs = T at ht ⊢
  have hlr : listR xs = listF xs (T + 1 - max (T - 63) 1).toNat (max (T - 63) 1) := by unfold listR; rw [hT]
  generalize hlo : max (T - 63) 1 = lo at hlr ⊢
  have hl1 : 1 ≤ lo := by omega
  have hl2 : lo ≤ T + 1 := by omega
  have hl3 : T - lo ≤ 63 := by omega
  clear hlo
  refine hold_loop okT (rs := [.tmp 2]) rfl [3, 4] [9, 10, 11, 12, 13, 14, 15, 16, 17, 18, 19, 20, 21] (fun vs w' => ∃ (n : Int) (acc : List Int) (sr : Value), lo ≤ n ∧ n ≤ T + 1 ∧ vs = [sr, .int .i64 n] ∧ (acc.length : Int) ≤ n - lo ∧ listR xs = acc ++ listF xs (T + 1 - n).toNat n ∧ w'.ownsRow w.heap.size 3 1 sr acc.length (acc.map (Value.int .i64)) ∧ Mod [] w w')
    (fun vs _ => match vs with | [_, .int _ n] => (T + 1 - n).toNat | _ => 0) (by kernel_rfl) ⟨lo, [], _, by omega, hl2, rfl, by simp, by simpa using hlr, World.ownsRow_nil _ _ _ _, Mod.refl _ _⟩ ?_
  rintro vs w' J ⟨n, acc, sr, hn1, hn2, rfl, hacc, hl, hr, hM⟩
  have h' := h.mod hM (by simp) (by simp)
  by_cases hlt : n ≤ T
  · simp (config := { maxSteps := 1000000 }) (disch := first | omega | (simp only [sizeAlloc, sizeDrew, sizeSet, sizePut]; omega) | fail) only [GS1, GS2, GS3, GS4, GS5, GS6, GS7, GS8, GS9, GS10, TT_eq, TTl, Nat.reduceAdd, Nat.reduceMul, Nat.reduceSub, Nat.reduceDiv, Nat.reduceMod, Nat.reducePow, Nat.reduceEqDiff, ↓reduceIte, reduceCtorEq, true_and, and_true, and_self, false_and, and_false, Int.reduceToNat, Int.reduceAdd, Int.reduceSub, Int.reduceMul, cond_true, cond_false, List.toList_toArray, Option.map_some, Option.map_none, Option.some.injEq, List.cons_append, List.nil_append]
    refine ⟨fok37, rTop_cps rw base sv xs _ _ h' hx (.inl ⟨_, rfl, hold_ops okT (rs := [.tmp 2]) rfl ?_⟩)⟩
    rw [hT]
    have e : (T + 1 - n).toNat = (T + 1 - (n + 1)).toNat + 1 := by omega
    rw [e] at hl
    by_cases hin : n ∈ xs
    · simp only [listF, if_pos hin] at hl
      simp (config := { maxSteps := 1000000 }) (disch := first | omega | (simp only [sizeAlloc, sizeDrew, sizeSet, sizePut]; omega) | fail) only [GS1, GS2, GS3, GS4, GS5, GS6, GS7, GS8, GS9, GS10, TT_eq, TTl, Nat.reduceAdd, Nat.reduceMul, Nat.reduceSub, Nat.reduceDiv, Nat.reduceMod, Nat.reducePow, Nat.reduceEqDiff, ↓reduceIte, reduceCtorEq, true_and, and_true, and_self, false_and, and_false, Int.reduceToNat, Int.reduceAdd, Int.reduceSub, Int.reduceMul, cond_true, cond_false, List.toList_toArray, Option.map_some, Option.map_none, Option.some.injEq, List.cons_append, List.nil_append]
      refine ⟨fok38, rHas_cps rw base sv xs n _ _ h' hx (.inl ⟨_, rfl, hold_ops okT (rs := [.tmp 2]) rfl ?_⟩)⟩
      rw [decide_eq_true hin]
      simp (config := { maxSteps := 1000000 }) (disch := first | omega | (simp only [sizeAlloc, sizeDrew, sizeSet, sizePut]; omega) | fail) only [GS1, GS2, GS3, GS4, GS5, GS6, GS7, GS8, GS9, GS10, TT_eq, TTl, Nat.reduceAdd, Nat.reduceMul, Nat.reduceSub, Nat.reduceDiv, Nat.reduceMod, Nat.reducePow, Nat.reduceEqDiff, ↓reduceIte, reduceCtorEq, true_and, and_true, and_self, false_and, and_false, Int.reduceToNat, Int.reduceAdd, Int.reduceSub, Int.reduceMul, cond_true, cond_false, List.toList_toArray, Option.map_some, Option.map_none, Option.some.injEq, List.cons_append, List.nil_append]
      refine hold_append1 okT (by rfl) (by rfl) (by rfl) (by rfl) (by rfl) w.heap.size hr (by rfl) (by rfl) (by rfl) (Nat.le_trans (Nat.mul_le_mul_right _ (show acc.length + 1 ≤ 100 by omega)) (by decide)) (by unfold maxLen; omega) hM.size fun sv' w3 hown3 hM3 hnn => ?_
      refine hold_ops okT (rs := [.tmp 2]) rfl ?_
      simp (config := { maxSteps := 1000000 }) (disch := first | omega | (simp only [sizeAlloc, sizeDrew, sizeSet, sizePut]; omega) | fail) only [GS1, GS2, GS3, GS4, GS5, GS6, GS7, GS8, GS9, GS10, TT_eq, TTl, Nat.reduceAdd, Nat.reduceMul, Nat.reduceSub, Nat.reduceDiv, Nat.reduceMod, Nat.reducePow, Nat.reduceEqDiff, ↓reduceIte, reduceCtorEq, true_and, and_true, and_self, false_and, and_false, Int.reduceToNat, Int.reduceAdd, Int.reduceSub, Int.reduceMul, cond_true, cond_false, List.toList_toArray, Option.map_some, Option.map_none, Option.some.injEq, List.cons_append, List.nil_append]
      refine ⟨⟨n + 1, acc ++ [n], _, by omega, by omega, rfl, by simp; omega, by simpa using hl, by simpa using hown3, hM.trans hM3 fun y hy => .inr (hr.lt y (by simpa using hy)).1⟩, by omega⟩
    · simp only [listF, if_neg hin] at hl
      simp (config := { maxSteps := 1000000 }) (disch := first | omega | (simp only [sizeAlloc, sizeDrew, sizeSet, sizePut]; omega) | fail) only [GS1, GS2, GS3, GS4, GS5, GS6, GS7, GS8, GS9, GS10, TT_eq, TTl, Nat.reduceAdd, Nat.reduceMul, Nat.reduceSub, Nat.reduceDiv, Nat.reduceMod, Nat.reducePow, Nat.reduceEqDiff, ↓reduceIte, reduceCtorEq, true_and, and_true, and_self, false_and, and_false, Int.reduceToNat, Int.reduceAdd, Int.reduceSub, Int.reduceMul, cond_true, cond_false, List.toList_toArray, Option.map_some, Option.map_none, Option.some.injEq, List.cons_append, List.nil_append]
      refine ⟨fok38, rHas_cps rw base sv xs n _ _ h' hx (.inl ⟨_, rfl, hold_ops okT (rs := [.tmp 2]) rfl ?_⟩)⟩
      rw [decide_eq_false hin]
      simp (config := { maxSteps := 1000000 }) (disch := first | omega | (simp only [sizeAlloc, sizeDrew, sizeSet, sizePut]; omega) | fail) only [GS1, GS2, GS3, GS4, GS5, GS6, GS7, GS8, GS9, GS10, TT_eq, TTl, Nat.reduceAdd, Nat.reduceMul, Nat.reduceSub, Nat.reduceDiv, Nat.reduceMod, Nat.reducePow, Nat.reduceEqDiff, ↓reduceIte, reduceCtorEq, true_and, and_true, and_self, false_and, and_false, Int.reduceToNat, Int.reduceAdd, Int.reduceSub, Int.reduceMul, cond_true, cond_false, List.toList_toArray, Option.map_some, Option.map_none, Option.some.injEq, List.cons_append, List.nil_append]
      exact ⟨⟨n + 1, acc, _, by omega, by omega, rfl, by omega, hl, hr, hM⟩, by omega⟩
  · simp (config := { maxSteps := 1000000 }) (disch := first | omega | (simp only [sizeAlloc, sizeDrew, sizeSet, sizePut]; omega) | fail) only [GS1, GS2, GS3, GS4, GS5, GS6, GS7, GS8, GS9, GS10, TT_eq, TTl, Nat.reduceAdd, Nat.reduceMul, Nat.reduceSub, Nat.reduceDiv, Nat.reduceMod, Nat.reducePow, Nat.reduceEqDiff, ↓reduceIte, reduceCtorEq, true_and, and_true, and_self, false_and, and_false, Int.reduceToNat, Int.reduceAdd, Int.reduceSub, Int.reduceMul, cond_true, cond_false, List.toList_toArray, Option.map_some, Option.map_none, Option.some.injEq, List.cons_append, List.nil_append]
    refine ⟨fok37, rTop_cps rw base sv xs _ _ h' hx (.inl ⟨_, rfl, hold_ops okT (rs := [.tmp 2]) rfl ?_⟩)⟩
    rw [hT]
    have e : (T + 1 - n).toNat = 0 := by omega
    rw [e] at hl
    simp only [listF, List.append_nil] at hl
    rw [← hl] at hr
    simp (config := { maxSteps := 1000000 }) (disch := first | omega | (simp only [sizeAlloc, sizeDrew, sizeSet, sizePut]; omega) | fail) only [GS1, GS2, GS3, GS4, GS5, GS6, GS7, GS8, GS9, GS10, TT_eq, TTl, Nat.reduceAdd, Nat.reduceMul, Nat.reduceSub, Nat.reduceDiv, Nat.reduceMod, Nat.reducePow, Nat.reduceEqDiff, ↓reduceIte, reduceCtorEq, true_and, and_true, and_self, false_and, and_false, Int.reduceToNat, Int.reduceAdd, Int.reduceSub, Int.reduceMul, cond_true, cond_false, List.toList_toArray, Option.map_some, Option.map_none, Option.some.injEq, List.cons_append, List.nil_append]
    exact hR _ _ hr hM
end Go.Proofs.Ytechabbdobbooaa
