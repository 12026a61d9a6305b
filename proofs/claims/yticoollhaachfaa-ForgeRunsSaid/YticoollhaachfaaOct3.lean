/-
  Numbers and texts that bytes begin with (walks).
-/
import Derived.Test.YticoollhaachfaaOct2
import Derived.Lib.Bits
set_option linter.unusedSimpArgs false
set_option linter.unusedVariables false
namespace Go.Proofs.Yticoollhaachfaa
open Go Go.Wk Go.RowKit
attribute [local irreducible] go Hold
def rnV (x : Nat × Nat × Int) : Value := .tuple #[.int .u64 x.1, .int .i64 x.2.1, .int .i64 x.2.2]
def rtV (x : List UInt8 × Nat × Int) : Value := .tuple #[.string ⟨x.1.toArray⟩, .int .i64 x.2.1, .int .i64 x.2.2]
theorem or_add (a b : Nat) (hb : b < 256) : a * 256 ||| b = a * 256 + b := by
  have := Nat.shiftLeft_add_eq_or_of_lt (i := 8) (b := b) (by omega) a
  rw [Nat.shiftLeft_eq] at this
  exact this.symm
theorem valL_take {r : List UInt8} {k : Nat} (h : k < r.length) : valL (r.take (k + 1)) = valL (r.take k) * 256 + r[k].toNat := by
  rw [List.take_succ_eq_append_getElem h, valL_snoc]
theorem valL_take_lt (r : List UInt8) {k : Nat} (h : k ≤ 7) : valL (r.take k) ≤ 72057594037927935 := by
  have := valL_lt (r.take k)
  have h2 : 256 ^ (r.take k).length ≤ 256 ^ 7 := Nat.pow_le_pow_right (by omega) (by rw [List.length_take]; omega)
  have h3 : 256 ^ 7 = 72057594037927936 := by decide
  omega
set_option maxRecDepth 20000 in
set_option maxHeartbeats 4000000 in
theorem oReadNum_cps (s : List UInt8) (hs : s.length ≤ maxLen) (w : World) (R : Ending → World → Prop) (hR : R (.returned (rnV (readNumS s))) w) :
    Calls Try.prog 96 #[.string ⟨s.toArray⟩] w R := by
  unfold maxLen at hs
  cases s with
  | nil =>
    refine calls_go 4000 okT Try.func96 rfl (rs := [.tmp 2, .tmp 3, .tmp 4]) rfl Try.ntmps96 (args := [.string ⟨([] : List UInt8).toArray⟩]) ?_
    simp (config := { maxSteps := 1000000 }) (disch := first | omega | (simp only [sizeAlloc, sizeDrew, sizeSet, sizePut] <;> omega) | fail) only [GS1, GS2, GS3, GS4, GS5, GS6, GS7, GS8, GS9, GS10, GS11, TT_eq, TTl, Nat.reduceAdd, Nat.reduceMul, Nat.reduceSub, Nat.reduceDiv, Nat.reduceMod, Nat.reducePow, Nat.reduceEqDiff, ↓reduceIte, reduceCtorEq, true_and, and_true, and_self, false_and, and_false, Int.reduceToNat, Int.reduceAdd, Int.reduceSub, Int.reduceMul, cond_true, cond_false, List.toList_toArray, Option.map_some, Option.map_none, Option.some.injEq, List.cons_append, List.nil_append, List.length_cons, List.length_nil, List.getD_cons_zero, List.getD_cons_succ, eq_self]
    exact hR
  | cons c r =>
    have hc := c.toNat_lt
    simp only [readNumS] at hR
    simp only [List.length_cons] at hs
    by_cases h1 : c.toNat < 248
    · rw [if_pos h1] at hR
      refine calls_go 4000 okT Try.func96 rfl (rs := [.tmp 2, .tmp 3, .tmp 4]) rfl Try.ntmps96 (args := [.string ⟨(c :: r).toArray⟩]) ?_
      simp (config := { maxSteps := 1000000 }) (disch := first | omega | (simp only [sizeAlloc, sizeDrew, sizeSet, sizePut] <;> omega) | fail) only [GS1, GS2, GS3, GS4, GS5, GS6, GS7, GS8, GS9, GS10, GS11, TT_eq, TTl, Nat.reduceAdd, Nat.reduceMul, Nat.reduceSub, Nat.reduceDiv, Nat.reduceMod, Nat.reducePow, Nat.reduceEqDiff, ↓reduceIte, reduceCtorEq, true_and, and_true, and_self, false_and, and_false, Int.reduceToNat, Int.reduceAdd, Int.reduceSub, Int.reduceMul, cond_true, cond_false, List.toList_toArray, Option.map_some, Option.map_none, Option.some.injEq, List.cons_append, List.nil_append, List.length_cons, List.length_nil, List.getD_cons_zero, List.getD_cons_succ]
      exact hR
    · rw [if_neg h1] at hR
      obtain ⟨N, hN⟩ : ∃ N, N = c.toNat - 247 := ⟨_, rfl⟩
      rw [← hN] at hR
      have hNi : (c.toNat : Int) - 247 = N := by omega
      by_cases h2 : r.length < N
      · rw [if_pos h2] at hR
        refine calls_go 4000 okT Try.func96 rfl (rs := [.tmp 2, .tmp 3, .tmp 4]) rfl Try.ntmps96 (args := [.string ⟨(c :: r).toArray⟩]) ?_
        simp (config := { maxSteps := 1000000 }) (disch := first | omega | (simp only [sizeAlloc, sizeDrew, sizeSet, sizePut] <;> omega) | fail) only [GS1, GS2, GS3, GS4, GS5, GS6, GS7, GS8, GS9, GS10, GS11, TT_eq, TTl, Nat.reduceAdd, Nat.reduceMul, Nat.reduceSub, Nat.reduceDiv, Nat.reduceMod, Nat.reducePow, Nat.reduceEqDiff, ↓reduceIte, reduceCtorEq, true_and, and_true, and_self, false_and, and_false, Int.reduceToNat, Int.reduceAdd, Int.reduceSub, Int.reduceMul, cond_true, cond_false, List.toList_toArray, Option.map_some, Option.map_none, Option.some.injEq, List.cons_append, List.nil_append, List.length_cons, List.length_nil, List.getD_cons_zero, List.getD_cons_succ, hNi, List.drop_succ_cons, List.drop_zero]
        exact hR
      · rw [if_neg h2] at hR
        refine calls_go 4000 okT Try.func96 rfl (rs := [.tmp 2, .tmp 3, .tmp 4]) rfl Try.ntmps96 (args := [.string ⟨(c :: r).toArray⟩]) ?_
        simp (config := { maxSteps := 1000000 }) (disch := first | omega | (simp only [sizeAlloc, sizeDrew, sizeSet, sizePut] <;> omega) | fail) only [GS1, GS2, GS3, GS4, GS5, GS6, GS7, GS8, GS9, GS10, GS11, TT_eq, TTl, Nat.reduceAdd, Nat.reduceMul, Nat.reduceSub, Nat.reduceDiv, Nat.reduceMod, Nat.reducePow, Nat.reduceEqDiff, ↓reduceIte, reduceCtorEq, true_and, and_true, and_self, false_and, and_false, Int.reduceToNat, Int.reduceAdd, Int.reduceSub, Int.reduceMul, cond_true, cond_false, List.toList_toArray, Option.map_some, Option.map_none, Option.some.injEq, List.cons_append, List.nil_append, List.length_cons, List.length_nil, List.getD_cons_zero, List.getD_cons_succ, hNi, List.drop_succ_cons, List.drop_zero]
        refine hold_loop okT (rs := [.tmp 2, .tmp 3, .tmp 4]) rfl [2, 25] [5, 26, 27, 28, 29, 30, 31, 32, 33, 34, 35] (fun vs w' => ∃ k : Nat, k ≤ N ∧ vs = [.int .u64 ((valL (r.take k) : Nat) : Int), .int .i64 k] ∧ w' = w) (fun vs _ => match vs with | [_, .int _ i] => N - i.toNat | _ => 0) (by kernel_rfl) ⟨0, by omega, rfl, rfl⟩ ?_
        rintro vs w' J ⟨k, hk, rfl, rfl⟩
        by_cases hlt : k < N
        · have hkr : k < r.length := by omega
          have hb := valL_take_lt r (k := k) (by omega)
          have hv := valL_take hkr
          have hrk := r[k].toNat_lt
          have hget : r.getD k 0 = r[k] := by rw [List.getD_eq_getElem?_getD, List.getElem?_eq_getElem hkr]; rfl
          generalize valL (r.take k) = x at *
          have hshl : IntKind.u64.wrap ((x : Int) * 2 ^ capN .u64 8) = ((x * 256 : Nat) : Int) := by
            rw [show (2 : Int) ^ capN .u64 8 = 256 from by decide, IntKind.wrap_u64]; omega
          have hor : bits .or .u64 ((x * 256 : Nat) : Int) (r[k].toNat : Int) = ((x * 256 + r[k].toNat : Nat) : Int) := by
            rw [u64_or_nat (x * 256) r[k].toNat (by omega) (by omega), or_add _ _ hrk]
          simp (config := { maxSteps := 1000000 }) (disch := first | omega | (simp only [sizeAlloc, sizeDrew, sizeSet, sizePut] <;> omega) | fail) only [GS1, GS2, GS3, GS4, GS5, GS6, GS7, GS8, GS9, GS10, GS11, TT_eq, TTl, Nat.reduceAdd, Nat.reduceMul, Nat.reduceSub, Nat.reduceDiv, Nat.reduceMod, Nat.reducePow, Nat.reduceEqDiff, ↓reduceIte, reduceCtorEq, true_and, and_true, and_self, false_and, and_false, Int.reduceToNat, Int.reduceAdd, Int.reduceSub, Int.reduceMul, cond_true, cond_false, List.toList_toArray, Option.map_some, Option.map_none, Option.some.injEq, List.cons_append, List.nil_append, List.length_cons, List.length_nil, List.getD_cons_zero, List.getD_cons_succ, hshl, hget, hor]
          refine ⟨⟨k + 1, by omega, ?_⟩, by omega⟩
          rw [hv]; rfl
        · have e : k = N := by omega
          subst e
          obtain ⟨y, t, rfl⟩ : ∃ y t, r = y :: t := by
            cases r with
            | nil => simp at h2; omega
            | cons y t => exact ⟨y, t, rfl⟩
          have hyl := y.toNat_lt
          have hvl := valL_lt ((y :: t).take k)
          have hvb : valL ((y :: t).take k) < 18446744073709551616 := Nat.lt_of_lt_of_le hvl (Nat.le_trans (Nat.pow_le_pow_right (n := 256) (by omega) (show _ ≤ 8 by rw [List.length_take]; omega)) (by decide))
          generalize valL ((y :: t).take k) = x at *
          by_cases hy : y = 0
          · rw [if_pos (show (y :: t).headD 0 = 0 ∨ x < 248 from .inl hy)] at hR
            have hy' : (y.toNat : Int) = 0 := by rw [hy]; rfl
            simp (config := { maxSteps := 1000000 }) (disch := first | omega | (simp only [sizeAlloc, sizeDrew, sizeSet, sizePut] <;> omega) | fail) only [GS1, GS2, GS3, GS4, GS5, GS6, GS7, GS8, GS9, GS10, GS11, TT_eq, TTl, Nat.reduceAdd, Nat.reduceMul, Nat.reduceSub, Nat.reduceDiv, Nat.reduceMod, Nat.reducePow, Nat.reduceEqDiff, ↓reduceIte, reduceCtorEq, true_and, and_true, and_self, false_and, and_false, Int.reduceToNat, Int.reduceAdd, Int.reduceSub, Int.reduceMul, cond_true, cond_false, List.toList_toArray, Option.map_some, Option.map_none, Option.some.injEq, List.cons_append, List.nil_append, List.length_cons, List.length_nil, List.getD_cons_zero, List.getD_cons_succ, hy']
            exact hR
          · have hy' : ¬ (y.toNat : Int) = 0 := fun e => hy (UInt8.toNat_inj.1 (by simpa using e))
            by_cases hx : x < 248
            · rw [if_pos (show (y :: t).headD 0 = 0 ∨ x < 248 from .inr hx)] at hR
              simp (config := { maxSteps := 1000000 }) (disch := first | omega | (simp only [sizeAlloc, sizeDrew, sizeSet, sizePut] <;> omega) | fail) only [GS1, GS2, GS3, GS4, GS5, GS6, GS7, GS8, GS9, GS10, GS11, TT_eq, TTl, Nat.reduceAdd, Nat.reduceMul, Nat.reduceSub, Nat.reduceDiv, Nat.reduceMod, Nat.reducePow, Nat.reduceEqDiff, ↓reduceIte, reduceCtorEq, true_and, and_true, and_self, false_and, and_false, Int.reduceToNat, Int.reduceAdd, Int.reduceSub, Int.reduceMul, cond_true, cond_false, List.toList_toArray, Option.map_some, Option.map_none, Option.some.injEq, List.cons_append, List.nil_append, List.length_cons, List.length_nil, List.getD_cons_zero, List.getD_cons_succ, hy']
              exact hR
            · rw [if_neg (show ¬ ((y :: t).headD 0 = 0 ∨ x < 248) from fun h => h.elim hy hx)] at hR
              simp (config := { maxSteps := 1000000 }) (disch := first | omega | (simp only [sizeAlloc, sizeDrew, sizeSet, sizePut] <;> omega) | fail) only [GS1, GS2, GS3, GS4, GS5, GS6, GS7, GS8, GS9, GS10, GS11, TT_eq, TTl, Nat.reduceAdd, Nat.reduceMul, Nat.reduceSub, Nat.reduceDiv, Nat.reduceMod, Nat.reducePow, Nat.reduceEqDiff, ↓reduceIte, reduceCtorEq, true_and, and_true, and_self, false_and, and_false, Int.reduceToNat, Int.reduceAdd, Int.reduceSub, Int.reduceMul, cond_true, cond_false, List.toList_toArray, Option.map_some, Option.map_none, Option.some.injEq, List.cons_append, List.nil_append, List.length_cons, List.length_nil, List.getD_cons_zero, List.getD_cons_succ, hy']
              exact hR
set_option maxRecDepth 20000 in
set_option maxHeartbeats 4000000 in
theorem oReadText_cps (s : List UInt8) (most : Nat) (hm : most ≤ 2000) (hs : s.length ≤ maxLen) (w : World) (R : Ending → World → Prop) (hR : R (.returned (rtV (readTextS s most))) w) :
    Calls Try.prog 77 #[.string ⟨s.toArray⟩, .int .i64 most] w R := by
  have hs' := hs
  unfold maxLen at hs
  unfold readTextS at hR
  refine calls_go 4000 okT Try.func77 rfl (rs := [.tmp 4, .tmp 5, .tmp 6]) rfl Try.ntmps77 (args := [.string ⟨s.toArray⟩, .int .i64 most]) ?_
  simp (config := { maxSteps := 1000000 }) (disch := first | omega | (simp only [sizeAlloc, sizeDrew, sizeSet, sizePut] <;> omega) | fail) only [GS1, GS2, GS3, GS4, GS5, GS6, GS7, GS8, GS9, GS10, GS11, TT_eq, TTl, Nat.reduceAdd, Nat.reduceMul, Nat.reduceSub, Nat.reduceDiv, Nat.reduceMod, Nat.reducePow, Nat.reduceEqDiff, ↓reduceIte, reduceCtorEq, true_and, and_true, and_self, false_and, and_false, Int.reduceToNat, Int.reduceAdd, Int.reduceSub, Int.reduceMul, cond_true, cond_false, List.toList_toArray, Option.map_some, Option.map_none, Option.some.injEq, List.cons_append, List.nil_append, List.length_cons, List.length_nil, List.getD_cons_zero, List.getD_cons_succ]
  refine ⟨fok96, oReadNum_cps s hs' _ _ (.inl ⟨_, rfl, hold_ops okT (rs := [.tmp 4, .tmp 5, .tmp 6]) rfl ?_⟩)⟩
  generalize hr : readNumS s = x at hR ⊢
  obtain ⟨v, n, e⟩ := x
  simp only at hR
  unfold rnV
  by_cases he : e ≠ 0
  · rw [if_pos he] at hR
    simp (config := { maxSteps := 1000000 }) (disch := first | omega | (simp only [sizeAlloc, sizeDrew, sizeSet, sizePut] <;> omega) | fail) only [GS1, GS2, GS3, GS4, GS5, GS6, GS7, GS8, GS9, GS10, GS11, TT_eq, TTl, Nat.reduceAdd, Nat.reduceMul, Nat.reduceSub, Nat.reduceDiv, Nat.reduceMod, Nat.reducePow, Nat.reduceEqDiff, ↓reduceIte, reduceCtorEq, true_and, and_true, and_self, false_and, and_false, Int.reduceToNat, Int.reduceAdd, Int.reduceSub, Int.reduceMul, cond_true, cond_false, List.toList_toArray, Option.map_some, Option.map_none, Option.some.injEq, List.cons_append, List.nil_append, List.length_cons, List.length_nil, List.getD_cons_zero, List.getD_cons_succ]
    exact hR
  · rw [if_neg he] at hR
    have he : e = 0 := Decidable.not_not.1 he
    subst he
    obtain ⟨hn, hn1, hv⟩ := readNumS_len hr
    by_cases h1 : most < v
    · rw [if_pos h1] at hR
      simp (config := { maxSteps := 1000000 }) (disch := first | omega | (simp only [sizeAlloc, sizeDrew, sizeSet, sizePut] <;> omega) | fail) only [GS1, GS2, GS3, GS4, GS5, GS6, GS7, GS8, GS9, GS10, GS11, TT_eq, TTl, Nat.reduceAdd, Nat.reduceMul, Nat.reduceSub, Nat.reduceDiv, Nat.reduceMod, Nat.reducePow, Nat.reduceEqDiff, ↓reduceIte, reduceCtorEq, true_and, and_true, and_self, false_and, and_false, Int.reduceToNat, Int.reduceAdd, Int.reduceSub, Int.reduceMul, cond_true, cond_false, List.toList_toArray, Option.map_some, Option.map_none, Option.some.injEq, List.cons_append, List.nil_append, List.length_cons, List.length_nil, List.getD_cons_zero, List.getD_cons_succ]
      exact hR
    · rw [if_neg h1] at hR
      by_cases h2 : s.length - n < v
      · rw [if_pos h2] at hR
        simp (config := { maxSteps := 1000000 }) (disch := first | omega | (simp only [sizeAlloc, sizeDrew, sizeSet, sizePut] <;> omega) | fail) only [GS1, GS2, GS3, GS4, GS5, GS6, GS7, GS8, GS9, GS10, GS11, TT_eq, TTl, Nat.reduceAdd, Nat.reduceMul, Nat.reduceSub, Nat.reduceDiv, Nat.reduceMod, Nat.reducePow, Nat.reduceEqDiff, ↓reduceIte, reduceCtorEq, true_and, and_true, and_self, false_and, and_false, Int.reduceToNat, Int.reduceAdd, Int.reduceSub, Int.reduceMul, cond_true, cond_false, List.toList_toArray, Option.map_some, Option.map_none, Option.some.injEq, List.cons_append, List.nil_append, List.length_cons, List.length_nil, List.getD_cons_zero, List.getD_cons_succ]
        exact hR
      · rw [if_neg h2] at hR
        have e1 : ((n : Int) + (v : Int)) = ((n + v : Nat) : Int) := by omega
        have e2 : List.drop n (List.take (n + v) s) = (s.drop n).take v := by rw [List.drop_take]; congr 1; omega
        simp (config := { maxSteps := 1000000 }) (disch := first | omega | (simp only [sizeAlloc, sizeDrew, sizeSet, sizePut] <;> omega) | fail) only [GS1, GS2, GS3, GS4, GS5, GS6, GS7, GS8, GS9, GS10, GS11, TT_eq, TTl, Nat.reduceAdd, Nat.reduceMul, Nat.reduceSub, Nat.reduceDiv, Nat.reduceMod, Nat.reducePow, Nat.reduceEqDiff, ↓reduceIte, reduceCtorEq, true_and, and_true, and_self, false_and, and_false, Int.reduceToNat, Int.reduceAdd, Int.reduceSub, Int.reduceMul, cond_true, cond_false, List.toList_toArray, Option.map_some, Option.map_none, Option.some.injEq, List.cons_append, List.nil_append, List.length_cons, List.length_nil, List.getD_cons_zero, List.getD_cons_succ, e1, e2]
        exact hR
theorem oText_cps (s : List UInt8) (hs : s.length ≤ 1000000) (w : World) (R : Ending → World → Prop) (hR : ∀ w', Mod [] w w' → R (.returned (.string ⟨(numL s.length ++ s).toArray⟩)) w') :
    Calls Try.prog 35 #[.string ⟨s.toArray⟩] w R := by
  refine calls_go 4000 okT Try.func35 rfl (rs := [.tmp 2]) rfl Try.ntmps35 (args := [.string ⟨s.toArray⟩]) ?_
  simp (config := { maxSteps := 1000000 }) (disch := first | omega | (simp only [sizeAlloc, sizeDrew, sizeSet, sizePut] <;> omega) | fail) only [GS1, GS2, GS3, GS4, GS5, GS6, GS7, GS8, GS9, GS10, GS11, TT_eq, TTl, Nat.reduceAdd, Nat.reduceMul, Nat.reduceSub, Nat.reduceDiv, Nat.reduceMod, Nat.reducePow, Nat.reduceEqDiff, ↓reduceIte, reduceCtorEq, true_and, and_true, and_self, false_and, and_false, Int.reduceToNat, Int.reduceAdd, Int.reduceSub, Int.reduceMul, cond_true, cond_false, List.toList_toArray, Option.map_some, Option.map_none, Option.some.injEq, List.cons_append, List.nil_append, List.length_cons, List.length_nil, List.getD_cons_zero, List.getD_cons_succ]
  have hl := numL_len (v := s.length) (by omega)
  refine ⟨fok37, oNum_cps s.length (by omega) _ _ fun w1 hM => .inl ⟨_, rfl, hold_ops okT (rs := [.tmp 2]) rfl ?_⟩⟩
  simp (config := { maxSteps := 1000000 }) (disch := first | omega | (simp only [sizeAlloc, sizeDrew, sizeSet, sizePut] <;> omega) | fail) only [GS1, GS2, GS3, GS4, GS5, GS6, GS7, GS8, GS9, GS10, GS11, TT_eq, TTl, Nat.reduceAdd, Nat.reduceMul, Nat.reduceSub, Nat.reduceDiv, Nat.reduceMod, Nat.reducePow, Nat.reduceEqDiff, ↓reduceIte, reduceCtorEq, true_and, and_true, and_self, false_and, and_false, Int.reduceToNat, Int.reduceAdd, Int.reduceSub, Int.reduceMul, cond_true, cond_false, List.toList_toArray, Option.map_some, Option.map_none, Option.some.injEq, List.cons_append, List.nil_append, List.length_cons, List.length_nil, List.getD_cons_zero, List.getD_cons_succ]
  exact hR _ hM
/-! the reference -/
set_option maxRecDepth 20000 in
set_option maxHeartbeats 2000000 in
theorem rDigits_cps : ∀ (m v : Nat), nd v ≤ m → m ≤ 8 → v < 18446744073709551616 → ∀ (w : World) (R : Ending → World → Prop), (∀ w', Mod [] w w' → R (.returned (.string ⟨(digL v).toArray⟩)) w') → Calls Try.prog 106 #[.int .u64 v] w R := by
  intro m
  induction m with
  | zero =>
    intro v hv _ _ w R hR
    have h0 : v = 0 := by
      rcases Nat.eq_zero_or_pos v with h | h
      · exact h
      · have := nd1 h; omega
    subst h0
    rw [digL_zero] at hR
    refine calls_go 4000 okT Try.func106 rfl (rs := [.tmp 2]) rfl Try.ntmps106 (args := [.int .u64 ((0 : Nat) : Int)]) ?_
    simp (config := { maxSteps := 1000000 }) (disch := first | omega | (simp only [sizeAlloc, sizeDrew, sizeSet, sizePut] <;> omega) | fail) only [GS1, GS2, GS3, GS4, GS5, GS6, GS7, GS8, GS9, GS10, GS11, TT_eq, TTl, Nat.reduceAdd, Nat.reduceMul, Nat.reduceSub, Nat.reduceDiv, Nat.reduceMod, Nat.reducePow, Nat.reduceEqDiff, ↓reduceIte, reduceCtorEq, true_and, and_true, and_self, false_and, and_false, Int.reduceToNat, Int.reduceAdd, Int.reduceSub, Int.reduceMul, cond_true, cond_false, List.toList_toArray, Option.map_some, Option.map_none, Option.some.injEq, List.cons_append, List.nil_append, List.length_cons, List.length_nil, List.getD_cons_zero, List.getD_cons_succ]
    exact hR _ (Mod.refl _ _)
  | succ m ih =>
    intro v hv hm8 hb w R hR
    by_cases h0 : v = 0
    · subst h0
      rw [digL_zero] at hR
      refine calls_go 4000 okT Try.func106 rfl (rs := [.tmp 2]) rfl Try.ntmps106 (args := [.int .u64 ((0 : Nat) : Int)]) ?_
      simp (config := { maxSteps := 1000000 }) (disch := first | omega | (simp only [sizeAlloc, sizeDrew, sizeSet, sizePut] <;> omega) | fail) only [GS1, GS2, GS3, GS4, GS5, GS6, GS7, GS8, GS9, GS10, GS11, TT_eq, TTl, Nat.reduceAdd, Nat.reduceMul, Nat.reduceSub, Nat.reduceDiv, Nat.reduceMod, Nat.reducePow, Nat.reduceEqDiff, ↓reduceIte, reduceCtorEq, true_and, and_true, and_self, false_and, and_false, Int.reduceToNat, Int.reduceAdd, Int.reduceSub, Int.reduceMul, cond_true, cond_false, List.toList_toArray, Option.map_some, Option.map_none, Option.some.injEq, List.cons_append, List.nil_append, List.length_cons, List.length_nil, List.getD_cons_zero, List.getD_cons_succ]
      exact hR _ (Mod.refl _ _)
    · have hnd := nd_pos h0
      have e1 : (v : Int).tdiv 256 = ((v / 256 : Nat) : Int) := by rw [Int.tdiv_eq_ediv_of_nonneg (by omega)]; omega
      have e2 : (v : Int).tmod 256 = ((v % 256 : Nat) : Int) := by rw [Int.tmod_eq_emod_of_nonneg (by omega)]; omega
      have hdl := digL_len (v / 256)
      refine calls_go 4000 okT Try.func106 rfl (rs := [.tmp 2]) rfl Try.ntmps106 (args := [.int .u64 v]) ?_
      simp (config := { maxSteps := 1000000 }) (disch := first | omega | (simp only [sizeAlloc, sizeDrew, sizeSet, sizePut] <;> omega) | fail) only [GS1, GS2, GS3, GS4, GS5, GS6, GS7, GS8, GS9, GS10, GS11, TT_eq, TTl, Nat.reduceAdd, Nat.reduceMul, Nat.reduceSub, Nat.reduceDiv, Nat.reduceMod, Nat.reducePow, Nat.reduceEqDiff, ↓reduceIte, reduceCtorEq, true_and, and_true, and_self, false_and, and_false, Int.reduceToNat, Int.reduceAdd, Int.reduceSub, Int.reduceMul, cond_true, cond_false, List.toList_toArray, Option.map_some, Option.map_none, Option.some.injEq, List.cons_append, List.nil_append, List.length_cons, List.length_nil, List.getD_cons_zero, List.getD_cons_succ]
      refine hold_draw2 okT (rs := [.tmp 2]) rfl [0, 1, 3, 0, 8, 24, 56, 120, 255, 511] [0, 1, 3, 4, 5, 2, 6, 7, 8, 9] [0, 1, 3, 4, 5, 6, 7, 2, 8, 9] 5 2 6 (by kernel_rfl) (by kernel_rfl) (by kernel_rfl) ?_ ?_
      simp (config := { maxSteps := 1000000 }) (disch := first | omega | (simp only [sizeAlloc, sizeDrew, sizeSet, sizePut] <;> omega) | fail) only [GS1, GS2, GS3, GS4, GS5, GS6, GS7, GS8, GS9, GS10, GS11, TT_eq, TTl, Nat.reduceAdd, Nat.reduceMul, Nat.reduceSub, Nat.reduceDiv, Nat.reduceMod, Nat.reducePow, Nat.reduceEqDiff, ↓reduceIte, reduceCtorEq, true_and, and_true, and_self, false_and, and_false, Int.reduceToNat, Int.reduceAdd, Int.reduceSub, Int.reduceMul, cond_true, cond_false, List.toList_toArray, Option.map_some, Option.map_none, Option.some.injEq, List.cons_append, List.nil_append, List.length_cons, List.length_nil, List.getD_cons_zero, List.getD_cons_succ, e1, e2]
      · refine ⟨fok106, ih (v / 256) (by omega) (by omega) (by omega) _ _ fun w1 hM => .inl ⟨_, rfl, hold_dops okT (rs := [.tmp 2]) rfl ?_⟩⟩
        simp (config := { maxSteps := 1000000 }) (disch := first | omega | (simp only [sizeAlloc, sizeDrew, sizeSet, sizePut] <;> omega) | fail) only [GS1, GS2, GS3, GS4, GS5, GS6, GS7, GS8, GS9, GS10, GS11, TT_eq, TTl, Nat.reduceAdd, Nat.reduceMul, Nat.reduceSub, Nat.reduceDiv, Nat.reduceMod, Nat.reducePow, Nat.reduceEqDiff, ↓reduceIte, reduceCtorEq, true_and, and_true, and_self, false_and, and_false, Int.reduceToNat, Int.reduceAdd, Int.reduceSub, Int.reduceMul, cond_true, cond_false, List.toList_toArray, Option.map_some, Option.map_none, Option.some.injEq, List.cons_append, List.nil_append, List.length_cons, List.length_nil, List.getD_cons_zero, List.getD_cons_succ]
        rw [digL_step h0] at hR
        exact hR _ ((Mod.drewN 1 (Mod.refl [] w)).trans hM (by simp) |>.alloc _)
      · simp (config := { maxSteps := 1000000 }) (disch := first | omega | (simp only [sizeAlloc, sizeDrew, sizeSet, sizePut] <;> omega) | fail) only [GS1, GS2, GS3, GS4, GS5, GS6, GS7, GS8, GS9, GS10, GS11, TT_eq, TTl, Nat.reduceAdd, Nat.reduceMul, Nat.reduceSub, Nat.reduceDiv, Nat.reduceMod, Nat.reducePow, Nat.reduceEqDiff, ↓reduceIte, reduceCtorEq, true_and, and_true, and_self, false_and, and_false, Int.reduceToNat, Int.reduceAdd, Int.reduceSub, Int.reduceMul, cond_true, cond_false, List.toList_toArray, Option.map_some, Option.map_none, Option.some.injEq, List.cons_append, List.nil_append, List.length_cons, List.length_nil, List.getD_cons_zero, List.getD_cons_succ, e1, e2]
        refine ⟨fok106, ih (v / 256) (by omega) (by omega) (by omega) _ _ fun w1 hM => .inl ⟨_, rfl, ?_, hold_dops okT (rs := [.tmp 2]) rfl ?_⟩⟩
        · have hk : w1.heap[w.heap.size]? = some (Obj.cells #[Value.int IntKind.u8 ↑(v % 256)] 5) := hM.get (by show (w.alloc _).heap[_]? = _; rw [heapA, if_pos rfl]) (by simp)
          rw [cellOf hk]
          simp only [List.getElem?_toArray, List.getElem?_cons_zero, consO, bytesO, bytesL, bytesC, strO, Int.toNat_natCast]
        simp (config := { maxSteps := 1000000 }) (disch := first | omega | (simp only [sizeAlloc, sizeDrew, sizeSet, sizePut] <;> omega) | fail) only [GS1, GS2, GS3, GS4, GS5, GS6, GS7, GS8, GS9, GS10, GS11, TT_eq, TTl, Nat.reduceAdd, Nat.reduceMul, Nat.reduceSub, Nat.reduceDiv, Nat.reduceMod, Nat.reducePow, Nat.reduceEqDiff, ↓reduceIte, reduceCtorEq, true_and, and_true, and_self, false_and, and_false, Int.reduceToNat, Int.reduceAdd, Int.reduceSub, Int.reduceMul, cond_true, cond_false, List.toList_toArray, Option.map_some, Option.map_none, Option.some.injEq, List.cons_append, List.nil_append, List.length_cons, List.length_nil, List.getD_cons_zero, List.getD_cons_succ]
        rw [digL_step h0] at hR
        exact hR _ (((Mod.refl [] w).alloc _).drewN 1 |>.trans hM (by simp))
end Go.Proofs.Yticoollhaachfaa
