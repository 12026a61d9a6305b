/-
  The reference's walk through a term.
-/
import Derived.Test.YticoollhaachfaaWlk1
set_option linter.unusedSimpArgs false
set_option linter.unusedVariables false
namespace Go.Proofs.Yticoollhaachfaa
open Go Go.Wk Go.RowKit
attribute [local irreducible] go Hold
/-- What the reference's 'read' answers. -/
def rdV (p : Nat) (x : Nat × Int × List PL) : Value := .tuple #[.int .i64 ((if x.2.1 = 0 then x.1 - p else 0 : Nat) : Int), .int .i64 x.2.1]
theorem frontS_k {s : List UInt8} {n k : Nat} {e : Int} (h : frontS s = (n, k, e)) : k ≤ 32 ∧ n ≤ s.length + 1 := by
  cases s with
  | nil => simp only [frontS, Prod.mk.injEq] at h; simp; omega
  | cons c r =>
    simp only [frontS] at h
    split at h
    · generalize hx : readTextS r 1024 = x at h
      obtain ⟨t, m, e⟩ := x
      have := readTextS_len hx
      simp only [Prod.mk.injEq] at h
      simp; omega
    · split at h
      · generalize hx : readTextS r 32 = x at h
        obtain ⟨t, m, e⟩ := x
        have := readTextS_len hx
        simp only at h
        split at h <;> (simp only [Prod.mk.injEq] at h; simp; omega)
      · split at h
        · generalize hx : readNumS r = x at h
          obtain ⟨v, m, e⟩ := x
          simp only at h
          by_cases he : e = 0
          · subst he
            have := readNumS_len hx
            by_cases hv : 32 < v
            · rw [if_pos ⟨rfl, hv⟩] at h
              simp only [Prod.mk.injEq] at h; simp; omega
            · rw [if_neg (fun h => hv h.2)] at h
              simp only [Prod.mk.injEq] at h; simp; omega
          · have := readNumS_err hx he
            rw [if_neg (fun h => he h.1)] at h
            simp only [Prod.mk.injEq] at h; simp; omega
        · split at h
          · simp only [Prod.mk.injEq] at h; simp; omega
          · split at h
            · simp only [Prod.mk.injEq] at h; simp; omega
            · split at h <;> (simp only [Prod.mk.injEq] at h; simp; omega)
set_option maxRecDepth 20000 in
set_option maxHeartbeats 8000000 in
theorem rRead_cps (S : List UInt8) (hS : S.length ≤ maxLen) : ∀ (f d p : Nat) (w : World) (R : Ending → World → Prop), d + f = 17 → p ≤ S.length → (∀ w', Mod [] w w' → R (.returned (rdV p (walkS S f d p))) w') →
      Calls Try.prog 92 #[.string ⟨(S.drop p).toArray⟩, .int .i64 d] w R := by
  have hS' := hS
  unfold maxLen at hS
  intro f
  induction f with
  | zero =>
    intro d p w R hd hp hR
    have hd : d = 17 := by omega
    subst hd
    refine calls_go 4000 okT Try.func92 rfl (rs := [.tmp 4, .tmp 5]) rfl Try.ntmps92 (args := [.string ⟨(S.drop p).toArray⟩, .int .i64 ((17 : Nat) : Int)]) ?_
    simp (config := { maxSteps := 1000000 }) (disch := first | omega | (simp only [sizeAlloc, sizeDrew, sizeSet, sizePut] <;> omega) | fail) only [GS1, GS2, GS3, GS4, GS5, GS6, GS7, GS8, GS9, GS10, GS11, TT_eq, TTl, Nat.reduceAdd, Nat.reduceMul, Nat.reduceSub, Nat.reduceDiv, Nat.reduceMod, Nat.reducePow, Nat.reduceEqDiff, ↓reduceIte, reduceCtorEq, true_and, and_true, and_self, false_and, and_false, Int.reduceToNat, Int.reduceAdd, Int.reduceSub, Int.reduceMul, cond_true, cond_false, List.toList_toArray, Option.map_some, Option.map_none, Option.some.injEq, List.cons_append, List.nil_append, List.length_cons, List.length_nil, List.getD_cons_zero, List.getD_cons_succ]
    exact hR w (Mod.refl _ _)
  | succ f ih =>
    intro d p w R hd hp hR
    have hdl0 : (S.drop p).length = S.length - p := List.length_drop
    have hdl : (S.drop p).length ≤ maxLen := by rw [List.length_drop]; unfold maxLen; omega
    obtain ⟨X, hX⟩ : ∃ X, X = walkS S (f + 1) d p := ⟨_, rfl⟩
    rw [← hX] at hR
    simp only [walkS] at hX
    refine calls_go 4000 okT Try.func92 rfl (rs := [.tmp 4, .tmp 5]) rfl Try.ntmps92 (args := [.string ⟨(S.drop p).toArray⟩, .int .i64 d]) ?_
    simp (config := { maxSteps := 1000000 }) (disch := first | omega | (simp only [sizeAlloc, sizeDrew, sizeSet, sizePut] <;> omega) | fail) only [GS1, GS2, GS3, GS4, GS5, GS6, GS7, GS8, GS9, GS10, GS11, TT_eq, TTl, Nat.reduceAdd, Nat.reduceMul, Nat.reduceSub, Nat.reduceDiv, Nat.reduceMod, Nat.reducePow, Nat.reduceEqDiff, ↓reduceIte, reduceCtorEq, true_and, and_true, and_self, false_and, and_false, Int.reduceToNat, Int.reduceAdd, Int.reduceSub, Int.reduceMul, cond_true, cond_false, List.toList_toArray, Option.map_some, Option.map_none, Option.some.injEq, List.cons_append, List.nil_append, List.length_cons, List.length_nil, List.getD_cons_zero, List.getD_cons_succ]
    refine ⟨fok91, rHead_cps (S.drop p) hdl _ _ fun w1 hM => .inl ⟨_, rfl, hold_ops okT (rs := [.tmp 4, .tmp 5]) rfl ?_⟩⟩
    generalize hx : frontS (S.drop p) = x at hX ⊢
    obtain ⟨n, k, e⟩ := x
    simp only at hX
    unfold frV
    have e2 : (d : Int) + 1 = ((d + 1 : Nat) : Int) := by omega
    have hkn := frontS_k hx
    simp (config := { maxSteps := 1000000 }) (disch := first | omega | (simp only [sizeAlloc, sizeDrew, sizeSet, sizePut] <;> omega) | fail) only [GS1, GS2, GS3, GS4, GS5, GS6, GS7, GS8, GS9, GS10, GS11, TT_eq, TTl, Nat.reduceAdd, Nat.reduceMul, Nat.reduceSub, Nat.reduceDiv, Nat.reduceMod, Nat.reducePow, Nat.reduceEqDiff, ↓reduceIte, reduceCtorEq, true_and, and_true, and_self, false_and, and_false, Int.reduceToNat, Int.reduceAdd, Int.reduceSub, Int.reduceMul, cond_true, cond_false, List.toList_toArray, Option.map_some, Option.map_none, Option.some.injEq, List.cons_append, List.nil_append, List.length_cons, List.length_nil, List.getD_cons_zero, List.getD_cons_succ]
    refine hold_loop okT (rs := [.tmp 4, .tmp 5]) rfl [6, 8, 9] [10, 19, 20, 21, 22, 23, 24, 25, 26, 27, 28, 29, 30, 31, 32, 33, 34, 35, 36, 37, 38, 39] (fun vs w' => Mod [] w w' ∧ ((∃ (i q : Nat) (l : List PL), e = 0 ∧ i ≤ k ∧ q ≤ S.length ∧ p ≤ q ∧ vs = [.int .i64 ((q - p : Nat) : Int), .int .i64 0, .int .i64 i] ∧
          kidsW (walkS S f (d + 1)) k (p + n) = ((kidsW (walkS S f (d + 1)) (k - i) q).1, (kidsW (walkS S f (d + 1)) (k - i) q).2.1, l ++ (kidsW (walkS S f (d + 1)) (k - i) q).2.2)) ∨
          (∃ (i : Nat) (z y : Int), y ≠ 0 ∧ i ≤ k ∧ vs = [.int .i64 z, .int .i64 y, .int .i64 i] ∧ X = (0, y, X.2.2)))) (fun vs _ => match vs with | [_, _, .int _ i] => k - i.toNat | _ => 0) (by kernel_rfl)
      ⟨hM, ?_⟩ ?_
    · by_cases he : e = 0
      · have hfl := frontS_len (hx.trans (by rw [he]))
        refine .inl ⟨0, p + n, [], he, by omega, by omega, by omega, ?_, rfl⟩
        rw [Nat.add_sub_cancel_left, he]; rfl
      · refine .inr ⟨0, n, e, he, by omega, rfl, ?_⟩
        rw [if_neg he] at hX
        rw [hX]
    · rintro vs w2 J ⟨hM2, ⟨i, q, l, he, hi, hq, hpq, rfl, hk⟩ | ⟨i, z, y, hy, hi, rfl, hXy⟩⟩
      · subst he
        rw [if_pos rfl] at hX
        by_cases hlt : i < k
        · obtain ⟨j, hj⟩ : ∃ j, k - i = j + 1 := ⟨k - i - 1, by omega⟩
          have hj2 : k - (i + 1) = j := by omega
          rw [hj] at hk
          simp only [kidsW] at hk
          have hwl := walkS_len S f (d + 1) q hq
          have e3 : List.drop (q - p) (List.drop p S) = List.drop q S := by rw [List.drop_drop]; congr 1; omega
          simp (config := { maxSteps := 1000000 }) (disch := first | omega | (simp only [sizeAlloc, sizeDrew, sizeSet, sizePut] <;> omega) | fail) only [GS1, GS2, GS3, GS4, GS5, GS6, GS7, GS8, GS9, GS10, GS11, TT_eq, TTl, Nat.reduceAdd, Nat.reduceMul, Nat.reduceSub, Nat.reduceDiv, Nat.reduceMod, Nat.reducePow, Nat.reduceEqDiff, ↓reduceIte, reduceCtorEq, true_and, and_true, and_self, false_and, and_false, Int.reduceToNat, Int.reduceAdd, Int.reduceSub, Int.reduceMul, cond_true, cond_false, List.toList_toArray, Option.map_some, Option.map_none, Option.some.injEq, List.cons_append, List.nil_append, List.length_cons, List.length_nil, List.getD_cons_zero, List.getD_cons_succ, e2, e3]
          refine ⟨fok92, ih (d + 1) q _ _ (by omega) hq fun w3 hM3 => .inl ⟨_, rfl, hold_ops okT (rs := [.tmp 4, .tmp 5]) rfl ?_⟩⟩
          have hM4 := hM2.trans hM3 (by simp)
          unfold rdV
          by_cases hz : (walkS S f (d + 1) q).2.1 = 0
          · rw [if_pos hz] at hk ⊢
            have hwl := hwl hz
            rw [hz]
            simp (config := { maxSteps := 1000000 }) (disch := first | omega | (simp only [sizeAlloc, sizeDrew, sizeSet, sizePut] <;> omega) | fail) only [GS1, GS2, GS3, GS4, GS5, GS6, GS7, GS8, GS9, GS10, GS11, TT_eq, TTl, Nat.reduceAdd, Nat.reduceMul, Nat.reduceSub, Nat.reduceDiv, Nat.reduceMod, Nat.reducePow, Nat.reduceEqDiff, ↓reduceIte, reduceCtorEq, true_and, and_true, and_self, false_and, and_false, Int.reduceToNat, Int.reduceAdd, Int.reduceSub, Int.reduceMul, cond_true, cond_false, List.toList_toArray, Option.map_some, Option.map_none, Option.some.injEq, List.cons_append, List.nil_append, List.length_cons, List.length_nil, List.getD_cons_zero, List.getD_cons_succ]
            refine ⟨⟨hM4, .inl ⟨i + 1, (walkS S f (d + 1) q).1, l ++ (walkS S f (d + 1) q).2.2, by omega, by omega, by omega, ?_, ?_⟩⟩, by omega⟩
            · congr 2
              omega
            · rw [hj2, hk, List.append_assoc]
          · rw [if_neg hz] at hk ⊢
            simp (config := { maxSteps := 1000000 }) (disch := first | omega | (simp only [sizeAlloc, sizeDrew, sizeSet, sizePut] <;> omega) | fail) only [GS1, GS2, GS3, GS4, GS5, GS6, GS7, GS8, GS9, GS10, GS11, TT_eq, TTl, Nat.reduceAdd, Nat.reduceMul, Nat.reduceSub, Nat.reduceDiv, Nat.reduceMod, Nat.reducePow, Nat.reduceEqDiff, ↓reduceIte, reduceCtorEq, true_and, and_true, and_self, false_and, and_false, Int.reduceToNat, Int.reduceAdd, Int.reduceSub, Int.reduceMul, cond_true, cond_false, List.toList_toArray, Option.map_some, Option.map_none, Option.some.injEq, List.cons_append, List.nil_append, List.length_cons, List.length_nil, List.getD_cons_zero, List.getD_cons_succ]
            refine ⟨⟨hM4, .inr ⟨i + 1, _, (walkS S f (d + 1) q).2.1, hz, by omega, rfl, ?_⟩⟩, by omega⟩
            rw [hk, if_neg hz] at hX
            rw [hX]
        · have e : i = k := by omega
          subst e
          rw [Nat.sub_self] at hk
          simp only [kidsW, List.append_nil] at hk
          simp (config := { maxSteps := 1000000 }) (disch := first | omega | (simp only [sizeAlloc, sizeDrew, sizeSet, sizePut] <;> omega) | fail) only [GS1, GS2, GS3, GS4, GS5, GS6, GS7, GS8, GS9, GS10, GS11, TT_eq, TTl, Nat.reduceAdd, Nat.reduceMul, Nat.reduceSub, Nat.reduceDiv, Nat.reduceMod, Nat.reducePow, Nat.reduceEqDiff, ↓reduceIte, reduceCtorEq, true_and, and_true, and_self, false_and, and_false, Int.reduceToNat, Int.reduceAdd, Int.reduceSub, Int.reduceMul, cond_true, cond_false, List.toList_toArray, Option.map_some, Option.map_none, Option.some.injEq, List.cons_append, List.nil_append, List.length_cons, List.length_nil, List.getD_cons_zero, List.getD_cons_succ]
          rw [hk] at hX
          simp only [if_true] at hX
          have := hR w2 hM2
          rw [hX] at this
          exact this
      · have := hR w2 hM2
        rw [hXy] at this
        unfold rdV at this
        simp only [if_neg hy] at this
        by_cases hlt : i < k
        · simp (config := { maxSteps := 1000000 }) (disch := first | omega | (simp only [sizeAlloc, sizeDrew, sizeSet, sizePut] <;> omega) | fail) only [GS1, GS2, GS3, GS4, GS5, GS6, GS7, GS8, GS9, GS10, GS11, TT_eq, TTl, Nat.reduceAdd, Nat.reduceMul, Nat.reduceSub, Nat.reduceDiv, Nat.reduceMod, Nat.reducePow, Nat.reduceEqDiff, ↓reduceIte, reduceCtorEq, true_and, and_true, and_self, false_and, and_false, Int.reduceToNat, Int.reduceAdd, Int.reduceSub, Int.reduceMul, cond_true, cond_false, List.toList_toArray, Option.map_some, Option.map_none, Option.some.injEq, List.cons_append, List.nil_append, List.length_cons, List.length_nil, List.getD_cons_zero, List.getD_cons_succ]
          exact this
        · simp (config := { maxSteps := 1000000 }) (disch := first | omega | (simp only [sizeAlloc, sizeDrew, sizeSet, sizePut] <;> omega) | fail) only [GS1, GS2, GS3, GS4, GS5, GS6, GS7, GS8, GS9, GS10, GS11, TT_eq, TTl, Nat.reduceAdd, Nat.reduceMul, Nat.reduceSub, Nat.reduceDiv, Nat.reduceMod, Nat.reducePow, Nat.reduceEqDiff, ↓reduceIte, reduceCtorEq, true_and, and_true, and_self, false_and, and_false, Int.reduceToNat, Int.reduceAdd, Int.reduceSub, Int.reduceMul, cond_true, cond_false, List.toList_toArray, Option.map_some, Option.map_none, Option.some.injEq, List.cons_append, List.nil_append, List.length_cons, List.length_nil, List.getD_cons_zero, List.getD_cons_succ]
          exact this
end Go.Proofs.Yticoollhaachfaa
