/-
  The walk through a term.
-/
import Derived.Test.YticoollhaachfaaFrn1
set_option linter.unusedSimpArgs false
set_option linter.unusedVariables false
namespace Go.Proofs.Yticoollhaachfaa
open Go Go.Wk Go.RowKit
attribute [local irreducible] go Hold
abbrev PL := Nat × Nat × Nat
/-- k parts, one behind the other, from p on. -/
def kidsW (W : Nat → Nat × Int × List PL) : Nat → Nat → Nat × Int × List PL
  | 0, p => (p, 0, [])
  | k + 1, p => if (W p).2.1 = 0 then ((kidsW W k (W p).1).1, (kidsW W k (W p).1).2.1, (W p).2.2 ++ (kidsW W k (W p).1).2.2) else (0, (W p).2.1, (W p).2.2)
/-- The walk: the end, an error, the places that were told. -/
def walkS (S : List UInt8) : Nat → Nat → Nat → Nat × Int × List PL
  | 0, _, _ => (0, 60, [])
  | f + 1, d, p => if (frontS (S.drop p)).2.2 = 0 then
      (if (kidsW (walkS S f (d + 1)) (frontS (S.drop p)).2.1 (p + (frontS (S.drop p)).1)).2.1 = 0 then
        ((kidsW (walkS S f (d + 1)) (frontS (S.drop p)).2.1 (p + (frontS (S.drop p)).1)).1, 0, (kidsW (walkS S f (d + 1)) (frontS (S.drop p)).2.1 (p + (frontS (S.drop p)).1)).2.2 ++ [(p, (kidsW (walkS S f (d + 1)) (frontS (S.drop p)).2.1 (p + (frontS (S.drop p)).1)).1, d)])
      else (0, (kidsW (walkS S f (d + 1)) (frontS (S.drop p)).2.1 (p + (frontS (S.drop p)).1)).2.1, (kidsW (walkS S f (d + 1)) (frontS (S.drop p)).2.1 (p + (frontS (S.drop p)).1)).2.2))
    else (0, (frontS (S.drop p)).2.2, [])
theorem frontS_len {s : List UInt8} {n k : Nat} (h : frontS s = (n, k, 0)) : n ≤ s.length ∧ 1 ≤ n ∧ k ≤ 32 := by
  cases s with
  | nil => simp [frontS] at h
  | cons c r =>
    simp only [frontS] at h
    split at h
    · generalize hx : readTextS r 1024 = x at h
      obtain ⟨t, m, e⟩ := x
      have := readTextS_len hx
      simp only [Prod.mk.injEq] at h
      obtain ⟨rfl, rfl, _⟩ := h
      simp; omega
    · split at h
      · generalize hx : readTextS r 32 = x at h
        obtain ⟨t, m, e⟩ := x
        have := readTextS_len hx
        simp only at h
        split at h
        · simp at h
        · simp only [Prod.mk.injEq] at h
          obtain ⟨rfl, rfl, _⟩ := h
          simp; omega
      · split at h
        · generalize hx : readNumS r = x at h
          obtain ⟨v, m, e⟩ := x
          simp only at h
          split at h
          · simp at h
          · rename_i hnv
            simp only [Prod.mk.injEq] at h
            obtain ⟨g1, g2, g3⟩ := h
            subst g3
            have := readNumS_len hx
            have : ¬ 32 < v := fun hv => hnv ⟨rfl, hv⟩
            simp; omega
        · split at h
          · simp only [Prod.mk.injEq] at h; simp; omega
          · split at h
            · simp only [Prod.mk.injEq] at h; simp; omega
            · split at h
              · simp only [Prod.mk.injEq] at h; simp; omega
              · simp at h
theorem kidsW_len {W : Nat → Nat × Int × List PL} {N : Nat} (hW : ∀ p, p ≤ N → (W p).2.1 = 0 → p ≤ (W p).1 ∧ (W p).1 ≤ N) : ∀ k p, p ≤ N → (kidsW W k p).2.1 = 0 → p ≤ (kidsW W k p).1 ∧ (kidsW W k p).1 ≤ N
  | 0, p, hp, _ => ⟨Nat.le_refl _, hp⟩
  | k + 1, p, hp, h => by
    simp only [kidsW] at h ⊢
    by_cases h0 : (W p).2.1 = 0
    · rw [if_pos h0] at h ⊢
      obtain ⟨h1, h2⟩ := hW p hp h0
      obtain ⟨h3, h4⟩ := kidsW_len hW k _ h2 h
      exact ⟨Nat.le_trans h1 h3, h4⟩
    · rw [if_neg h0] at h; exact absurd h h0
theorem walkS_len (S : List UInt8) : ∀ f d p, p ≤ S.length → (walkS S f d p).2.1 = 0 → p ≤ (walkS S f d p).1 ∧ (walkS S f d p).1 ≤ S.length
  | 0, d, p, _, h => by simp [walkS] at h
  | f + 1, d, p, hp, h => by
    simp only [walkS] at h ⊢
    by_cases h0 : (frontS (S.drop p)).2.2 = 0
    · rw [if_pos h0] at h ⊢
      have hl := frontS_len (s := S.drop p) (n := (frontS (S.drop p)).1) (k := (frontS (S.drop p)).2.1) (by rw [← h0])
      rw [List.length_drop] at hl
      by_cases h1 : (kidsW (walkS S f (d + 1)) (frontS (S.drop p)).2.1 (p + (frontS (S.drop p)).1)).2.1 = 0
      · rw [if_pos h1]
        have := kidsW_len (W := walkS S f (d + 1)) (N := S.length) (fun q hq h => walkS_len S f (d + 1) q hq h) _ _ (by omega) h1
        exact ⟨by simp only; omega, this.2⟩
      · rw [if_neg h1] at h; exact absurd h h1
    · rw [if_neg h0] at h; exact absurd h h0
theorem kidsW_cnt {W : Nat → Nat × Int × List PL} {N : Nat} (hW : ∀ p, p ≤ N → ((W p).2.1 = 0 → p ≤ (W p).1 ∧ (W p).1 ≤ N ∧ (W p).2.2.length ≤ (W p).1 - p) ∧ (W p).2.2.length ≤ N - p) :
    ∀ k p, p ≤ N → ((kidsW W k p).2.1 = 0 → (kidsW W k p).2.2.length ≤ (kidsW W k p).1 - p) ∧ (kidsW W k p).2.2.length ≤ N - p
  | 0, p, hp => by simp [kidsW]
  | k + 1, p, hp => by
    simp only [kidsW]
    have h1 := hW p hp
    by_cases h0 : (W p).2.1 = 0
    · rw [if_pos h0]
      obtain ⟨g1, g2, g3⟩ := h1.1 h0
      have h2 := kidsW_cnt hW k (W p).1 g2
      have h3 := fun h => kidsW_len (fun q hq h => ⟨((hW q hq).1 h).1, ((hW q hq).1 h).2.1⟩) k (W p).1 g2 h
      simp only [List.length_append]
      refine ⟨fun h => ?_, by have := h2.2; omega⟩
      have := h3 h
      have := h2.1 h
      omega
    · rw [if_neg h0]
      exact ⟨fun h => absurd h h0, h1.2⟩
theorem walkS_cnt (S : List UInt8) : ∀ f d p, p ≤ S.length → ((walkS S f d p).2.1 = 0 → (walkS S f d p).2.2.length ≤ (walkS S f d p).1 - p) ∧ (walkS S f d p).2.2.length ≤ S.length - p
  | 0, d, p, hp => by simp [walkS]
  | f + 1, d, p, hp => by
    have ih : ∀ q, q ≤ S.length → ((walkS S f (d + 1) q).2.1 = 0 → q ≤ (walkS S f (d + 1) q).1 ∧ (walkS S f (d + 1) q).1 ≤ S.length ∧ (walkS S f (d + 1) q).2.2.length ≤ (walkS S f (d + 1) q).1 - q) ∧ (walkS S f (d + 1) q).2.2.length ≤ S.length - q := by
      intro q hq
      have h1 := walkS_cnt S f (d + 1) q hq
      exact ⟨fun h => ⟨(walkS_len S f (d + 1) q hq h).1, (walkS_len S f (d + 1) q hq h).2, h1.1 h⟩, h1.2⟩
    simp only [walkS]
    by_cases h0 : (frontS (S.drop p)).2.2 = 0
    · rw [if_pos h0]
      have hl := frontS_len (s := S.drop p) (n := (frontS (S.drop p)).1) (k := (frontS (S.drop p)).2.1) (by rw [← h0])
      rw [List.length_drop] at hl
      have hk := kidsW_cnt ih (frontS (S.drop p)).2.1 (p + (frontS (S.drop p)).1) (by omega)
      by_cases h1 : (kidsW (walkS S f (d + 1)) (frontS (S.drop p)).2.1 (p + (frontS (S.drop p)).1)).2.1 = 0
      · rw [if_pos h1]
        have h2 := kidsW_len (W := walkS S f (d + 1)) (N := S.length) (fun q hq h => walkS_len S f (d + 1) q hq h) _ _ (by omega) h1
        have h3 := hk.1 h1
        have h4 := hk.2
        simp only [List.length_append, List.length_cons, List.length_nil]
        exact ⟨fun _ => by omega, by omega⟩
      · rw [if_neg h1]
        have h4 := hk.2
        exact ⟨fun h => absurd h h1, by simp only; omega⟩
    · rw [if_neg h0]; simp
/-- What 'walk' does. -/
def wkE (x : Nat × Int × List PL) : Ending := if x.2.1 = 0 then .returned (.int .i64 x.1) else .panicked (wrongV x.2.1)
set_option maxRecDepth 20000 in
set_option maxHeartbeats 8000000 in
theorem tWalk_cps (S : List UInt8) (hS : S.length ≤ maxLen) (g : Nat) (cap : Array Value) (hg : FOk Try.prog g) (Tell : List PL → World → Prop) (hTM : ∀ l w w', Tell l w → Mod [] w w' → Tell l w')
    (Lt : List PL) (hT : ∀ (l : List PL) (a b d : Nat) (w : World) (R : Ending → World → Prop), (∃ r, l ++ (a, b, d) :: r = Lt) → a ≤ b → b ≤ S.length → d ≤ 16 → Tell l w → (∀ w', Tell (l ++ [(a, b, d)]) w' → R (.returned (.tuple #[])) w') → Calls Try.prog g (([.int .i64 a, .int .i64 b, .int .i64 d] : List Value) ++ cap.toList).toArray w R) :
    ∀ (f d p : Nat) (l0 : List PL) (w : World) (R : Ending → World → Prop), d + f = 17 → p ≤ S.length → (∃ r, l0 ++ (walkS S f d p).2.2 ++ r = Lt) → Tell l0 w → (∀ w', Tell (l0 ++ (walkS S f d p).2.2) w' → R (wkE (walkS S f d p)) w') →
      Calls Try.prog 72 #[.string ⟨S.toArray⟩, .int .i64 p, .int .i64 d, .func (.func g) #[] cap] w R := by
  have hS' := hS
  unfold maxLen at hS
  intro f
  induction f with
  | zero =>
    intro d p l0 w R hd hp hL hl hR
    have hd : d = 17 := by omega
    subst hd
    refine calls_go 4000 okT Try.func72 rfl (rs := [.tmp 8]) rfl Try.ntmps72 (args := [.string ⟨S.toArray⟩, .int .i64 p, .int .i64 ((17 : Nat) : Int), .func (.func g) #[] cap]) ?_
    simp (config := { maxSteps := 1000000 }) (disch := first | omega | (simp only [sizeAlloc, sizeDrew, sizeSet, sizePut] <;> omega) | fail) only [GS1, GS2, GS3, GS4, GS5, GS6, GS7, GS8, GS9, GS10, GS11, TT_eq, TTl, Nat.reduceAdd, Nat.reduceMul, Nat.reduceSub, Nat.reduceDiv, Nat.reduceMod, Nat.reducePow, Nat.reduceEqDiff, ↓reduceIte, reduceCtorEq, true_and, and_true, and_self, false_and, and_false, Int.reduceToNat, Int.reduceAdd, Int.reduceSub, Int.reduceMul, cond_true, cond_false, List.toList_toArray, Option.map_some, Option.map_none, Option.some.injEq, List.cons_append, List.nil_append, List.length_cons, List.length_nil, List.getD_cons_zero, List.getD_cons_succ]
    have hR : R (.panicked (wrongV 60)) w := hR w (by simpa [walkS] using hl)
    refine ⟨fok74, must_cps 60 _ _ (fun h => absurd h (by decide)) fun _ => .inr ⟨_, rfl, hold_ex okT (rs := [.tmp 8]) rfl ?_⟩⟩
    simp (config := { maxSteps := 1000000 }) (disch := first | omega | (simp only [sizeAlloc, sizeDrew, sizeSet, sizePut] <;> omega) | fail) only [GS1, GS2, GS3, GS4, GS5, GS6, GS7, GS8, GS9, GS10, GS11, TT_eq, TTl, Nat.reduceAdd, Nat.reduceMul, Nat.reduceSub, Nat.reduceDiv, Nat.reduceMod, Nat.reducePow, Nat.reduceEqDiff, ↓reduceIte, reduceCtorEq, true_and, and_true, and_self, false_and, and_false, Int.reduceToNat, Int.reduceAdd, Int.reduceSub, Int.reduceMul, cond_true, cond_false, List.toList_toArray, Option.map_some, Option.map_none, Option.some.injEq, List.cons_append, List.nil_append, List.length_cons, List.length_nil, List.getD_cons_zero, List.getD_cons_succ]
    exact hR
  | succ f ih =>
    intro d p l0 w R hd hp hL hl hR
    simp only [walkS] at hR hL
    refine calls_go 4000 okT Try.func72 rfl (rs := [.tmp 8]) rfl Try.ntmps72 (args := [.string ⟨S.toArray⟩, .int .i64 p, .int .i64 d, .func (.func g) #[] cap]) ?_
    simp (config := { maxSteps := 1000000 }) (disch := first | omega | (simp only [sizeAlloc, sizeDrew, sizeSet, sizePut] <;> omega) | fail) only [GS1, GS2, GS3, GS4, GS5, GS6, GS7, GS8, GS9, GS10, GS11, TT_eq, TTl, Nat.reduceAdd, Nat.reduceMul, Nat.reduceSub, Nat.reduceDiv, Nat.reduceMod, Nat.reducePow, Nat.reduceEqDiff, ↓reduceIte, reduceCtorEq, true_and, and_true, and_self, false_and, and_false, Int.reduceToNat, Int.reduceAdd, Int.reduceSub, Int.reduceMul, cond_true, cond_false, List.toList_toArray, Option.map_some, Option.map_none, Option.some.injEq, List.cons_append, List.nil_append, List.length_cons, List.length_nil, List.getD_cons_zero, List.getD_cons_succ]
    have hdl : (S.drop p).length ≤ maxLen := by rw [List.length_drop]; unfold maxLen; omega
    refine ⟨fok94, tFront_cps (S.drop p) hdl _ _ fun w1 hM => ?_⟩
    generalize hx : frontS (S.drop p) = x at hR hL ⊢
    obtain ⟨n, k, e⟩ := x
    simp only at hR hL
    unfold frE
    have hl1 := hTM _ _ _ hl hM
    by_cases he : e = 0
    · subst he
      have hfl := frontS_len hx
      rw [List.length_drop] at hfl
      simp only [if_true] at hR hL ⊢
      have hL2 : ∃ r, l0 ++ (kidsW (walkS S f (d + 1)) k (p + n)).2.2 ++ r = Lt := by
        obtain ⟨r, hr⟩ := hL
        split at hr
        · exact ⟨(p, _, d) :: r, by rw [← hr]; simp only [List.append_assoc, List.cons_append, List.nil_append]; rfl⟩
        · exact ⟨r, hr⟩
      refine .inl ⟨_, rfl, hold_ops okT (rs := [.tmp 8]) rfl ?_⟩
      have e1 : (p : Int) + (n : Int) = ((p + n : Nat) : Int) := by omega
      have e2 : (d : Int) + 1 = ((d + 1 : Nat) : Int) := by omega
      simp (config := { maxSteps := 1000000 }) (disch := first | omega | (simp only [sizeAlloc, sizeDrew, sizeSet, sizePut] <;> omega) | fail) only [GS1, GS2, GS3, GS4, GS5, GS6, GS7, GS8, GS9, GS10, GS11, TT_eq, TTl, Nat.reduceAdd, Nat.reduceMul, Nat.reduceSub, Nat.reduceDiv, Nat.reduceMod, Nat.reducePow, Nat.reduceEqDiff, ↓reduceIte, reduceCtorEq, true_and, and_true, and_self, false_and, and_false, Int.reduceToNat, Int.reduceAdd, Int.reduceSub, Int.reduceMul, cond_true, cond_false, List.toList_toArray, Option.map_some, Option.map_none, Option.some.injEq, List.cons_append, List.nil_append, List.length_cons, List.length_nil, List.getD_cons_zero, List.getD_cons_succ, e1]
      refine hold_loop okT (rs := [.tmp 8]) rfl [11, 26] [27, 28, 29, 30, 31, 32, 33, 34] (fun vs w' => ∃ (i q : Nat) (l : List PL), i ≤ k ∧ q ≤ S.length ∧ p ≤ q ∧ vs = [.int .i64 q, .int .i64 i] ∧ Tell (l0 ++ l) w' ∧
          kidsW (walkS S f (d + 1)) k (p + n) = ((kidsW (walkS S f (d + 1)) (k - i) q).1, (kidsW (walkS S f (d + 1)) (k - i) q).2.1, l ++ (kidsW (walkS S f (d + 1)) (k - i) q).2.2)) (fun vs _ => match vs with | [_, .int _ i] => k - i.toNat | _ => 0) (by kernel_rfl)
        ⟨0, p + n, [], by omega, by omega, by omega, rfl, by simpa using hl1, rfl⟩ ?_
      rintro vs w2 J ⟨i, q, l, hi, hq, hpq, rfl, hl2, hk⟩
      by_cases hlt : i < k
      · obtain ⟨j, hj⟩ : ∃ j, k - i = j + 1 := ⟨k - i - 1, by omega⟩
        have hj2 : k - (i + 1) = j := by omega
        rw [hj] at hk
        simp only [kidsW] at hk
        have hwl := walkS_len S f (d + 1) q hq
        have hL3 : ∃ r, l0 ++ l ++ (walkS S f (d + 1) q).2.2 ++ r = Lt := by
          obtain ⟨r, hr⟩ := hL2
          rw [hk] at hr
          split at hr
          · exact ⟨_, by rw [← hr]; simp only [List.append_assoc]; rfl⟩
          · exact ⟨_, by rw [← hr]; simp only [List.append_assoc]; rfl⟩
        simp (config := { maxSteps := 1000000 }) (disch := first | omega | (simp only [sizeAlloc, sizeDrew, sizeSet, sizePut] <;> omega) | fail) only [GS1, GS2, GS3, GS4, GS5, GS6, GS7, GS8, GS9, GS10, GS11, TT_eq, TTl, Nat.reduceAdd, Nat.reduceMul, Nat.reduceSub, Nat.reduceDiv, Nat.reduceMod, Nat.reducePow, Nat.reduceEqDiff, ↓reduceIte, reduceCtorEq, true_and, and_true, and_self, false_and, and_false, Int.reduceToNat, Int.reduceAdd, Int.reduceSub, Int.reduceMul, cond_true, cond_false, List.toList_toArray, Option.map_some, Option.map_none, Option.some.injEq, List.cons_append, List.nil_append, List.length_cons, List.length_nil, List.getD_cons_zero, List.getD_cons_succ, e2]
        refine ⟨fok72, ih (d + 1) q (l0 ++ l) _ _ (by omega) hq hL3 hl2 fun w3 hl3 => ?_⟩
        unfold wkE
        by_cases hz : (walkS S f (d + 1) q).2.1 = 0
        · rw [if_pos hz]
          rw [if_pos hz] at hk
          have hwl := hwl hz
          refine .inl ⟨_, rfl, hold_ops okT (rs := [.tmp 8]) rfl ?_⟩
          simp (config := { maxSteps := 1000000 }) (disch := first | omega | (simp only [sizeAlloc, sizeDrew, sizeSet, sizePut] <;> omega) | fail) only [GS1, GS2, GS3, GS4, GS5, GS6, GS7, GS8, GS9, GS10, GS11, TT_eq, TTl, Nat.reduceAdd, Nat.reduceMul, Nat.reduceSub, Nat.reduceDiv, Nat.reduceMod, Nat.reducePow, Nat.reduceEqDiff, ↓reduceIte, reduceCtorEq, true_and, and_true, and_self, false_and, and_false, Int.reduceToNat, Int.reduceAdd, Int.reduceSub, Int.reduceMul, cond_true, cond_false, List.toList_toArray, Option.map_some, Option.map_none, Option.some.injEq, List.cons_append, List.nil_append, List.length_cons, List.length_nil, List.getD_cons_zero, List.getD_cons_succ]
          refine ⟨⟨i + 1, (walkS S f (d + 1) q).1, l ++ (walkS S f (d + 1) q).2.2, by omega, by omega, by omega, rfl, ?_, ?_⟩, by omega⟩
          · rw [← List.append_assoc]; exact hl3
          · rw [hj2, hk, List.append_assoc]
        · rw [if_neg hz]
          rw [if_neg hz] at hk
          refine .inr ⟨_, rfl, hold_ex okT (rs := [.tmp 8]) rfl ?_⟩
          simp (config := { maxSteps := 1000000 }) (disch := first | omega | (simp only [sizeAlloc, sizeDrew, sizeSet, sizePut] <;> omega) | fail) only [GS1, GS2, GS3, GS4, GS5, GS6, GS7, GS8, GS9, GS10, GS11, TT_eq, TTl, Nat.reduceAdd, Nat.reduceMul, Nat.reduceSub, Nat.reduceDiv, Nat.reduceMod, Nat.reducePow, Nat.reduceEqDiff, ↓reduceIte, reduceCtorEq, true_and, and_true, and_self, false_and, and_false, Int.reduceToNat, Int.reduceAdd, Int.reduceSub, Int.reduceMul, cond_true, cond_false, List.toList_toArray, Option.map_some, Option.map_none, Option.some.injEq, List.cons_append, List.nil_append, List.length_cons, List.length_nil, List.getD_cons_zero, List.getD_cons_succ]
          rw [hk] at hR
          simp only [if_neg hz] at hR
          have := hR w3 (by rw [← List.append_assoc]; exact hl3)
          unfold wkE at this
          simp only [if_neg hz] at this
          exact this
      · have e : i = k := by omega
        subst e
        rw [Nat.sub_self] at hk
        simp only [kidsW, List.append_nil] at hk
        simp (config := { maxSteps := 1000000 }) (disch := first | omega | (simp only [sizeAlloc, sizeDrew, sizeSet, sizePut] <;> omega) | fail) only [GS1, GS2, GS3, GS4, GS5, GS6, GS7, GS8, GS9, GS10, GS11, TT_eq, TTl, Nat.reduceAdd, Nat.reduceMul, Nat.reduceSub, Nat.reduceDiv, Nat.reduceMod, Nat.reducePow, Nat.reduceEqDiff, ↓reduceIte, reduceCtorEq, true_and, and_true, and_self, false_and, and_false, Int.reduceToNat, Int.reduceAdd, Int.reduceSub, Int.reduceMul, cond_true, cond_false, List.toList_toArray, Option.map_some, Option.map_none, Option.some.injEq, List.cons_append, List.nil_append, List.length_cons, List.length_nil, List.getD_cons_zero, List.getD_cons_succ]
        have hL4 : ∃ r, l0 ++ l ++ (p, q, d) :: r = Lt := by
          obtain ⟨r, hr⟩ := hL
          rw [hk] at hr
          simp only [if_true] at hr
          exact ⟨r, by rw [← hr]; simp only [List.append_assoc, List.cons_append, List.nil_append]⟩
        refine ⟨hg, hT (l0 ++ l) p q d _ _ hL4 hpq hq (by omega) hl2 fun w3 hl3 => .inl ⟨_, rfl, hold_ops okT (rs := [.tmp 8]) rfl ?_⟩⟩
        simp (config := { maxSteps := 1000000 }) (disch := first | omega | (simp only [sizeAlloc, sizeDrew, sizeSet, sizePut] <;> omega) | fail) only [GS1, GS2, GS3, GS4, GS5, GS6, GS7, GS8, GS9, GS10, GS11, TT_eq, TTl, Nat.reduceAdd, Nat.reduceMul, Nat.reduceSub, Nat.reduceDiv, Nat.reduceMod, Nat.reducePow, Nat.reduceEqDiff, ↓reduceIte, reduceCtorEq, true_and, and_true, and_self, false_and, and_false, Int.reduceToNat, Int.reduceAdd, Int.reduceSub, Int.reduceMul, cond_true, cond_false, List.toList_toArray, Option.map_some, Option.map_none, Option.some.injEq, List.cons_append, List.nil_append, List.length_cons, List.length_nil, List.getD_cons_zero, List.getD_cons_succ]
        rw [hk] at hR
        simp only [if_true] at hR
        have := hR w3 (by rw [← List.append_assoc]; exact hl3)
        unfold wkE at this
        simp only [if_true] at this
        exact this
    · simp only [he, if_false] at hR ⊢
      refine .inr ⟨_, rfl, hold_ex okT (rs := [.tmp 8]) rfl ?_⟩
      simp (config := { maxSteps := 1000000 }) (disch := first | omega | (simp only [sizeAlloc, sizeDrew, sizeSet, sizePut] <;> omega) | fail) only [GS1, GS2, GS3, GS4, GS5, GS6, GS7, GS8, GS9, GS10, GS11, TT_eq, TTl, Nat.reduceAdd, Nat.reduceMul, Nat.reduceSub, Nat.reduceDiv, Nat.reduceMod, Nat.reducePow, Nat.reduceEqDiff, ↓reduceIte, reduceCtorEq, true_and, and_true, and_self, false_and, and_false, Int.reduceToNat, Int.reduceAdd, Int.reduceSub, Int.reduceMul, cond_true, cond_false, List.toList_toArray, Option.map_some, Option.map_none, Option.some.injEq, List.cons_append, List.nil_append, List.length_cons, List.length_nil, List.getD_cons_zero, List.getD_cons_succ]
      have := hR w1 (by simpa using hl1)
      unfold wkE at this
      simp only [he, if_false] at this
      exact this
end Go.Proofs.Yticoollhaachfaa
