/-
  The reference's reader of a term, and of a line (walks).
-/
import Derived.Test.YtpcmebcfgmoipaaShwK
import Derived.Test.YtpcmebcfgmoipaaSbk
set_option linter.unusedSimpArgs false
set_option linter.unusedVariables false
namespace Go.Proofs.Ytpcmebcfgmoipaa
open Go Go.Wk Go.RowKit
attribute [local irreducible] go Hold
open Go.Lib
theorem termF_36 (f : Nat) (r : List UInt8) : termF (f + 1) (36 :: r) = hadO (atomS (nmS r)) (r.drop (nmS r).length) := by
  rw [termF, if_pos (pre1_t (by decide)), List.drop_succ_cons, List.drop_zero, whl_nm, take_tw]
  rfl
theorem termF_120 (f : Nat) (r : List UInt8) : termF (f + 1) (120 :: r) = if (hexS r).length % 2 = 0 ∧ plainS (hexP (hexS r)) = false then hadO (dataS (hexP (hexS r))) (r.drop (hexS r).length) else none := by
  rw [termF, if_neg (pre1_f (by decide)), if_pos (pre1_t (by decide)), List.drop_succ_cons, List.drop_zero]
theorem termF_34 (f : Nat) (r : List UInt8) : termF (f + 1) (34 :: r) = if preS [34] (r.drop (whlS plB r)) = true then hadO (dataS (r.take (whlS plB r))) ((r.drop (whlS plB r)).drop 1) else none := by
  rw [termF, if_neg (pre1_f (by decide)), if_neg (pre1_f (by decide)), if_pos (pre1_t (by decide)), List.drop_succ_cons, List.drop_zero]
theorem termF_91 (f : Nat) (r : List UInt8) : termF (f + 1) (91 :: r) = match partsF (termF f) [93] 34 [] r with | some (l, r') => hadO (madeS (114 :: numL l.length) l) r' | none => none := by
  rw [termF, if_neg (pre1_f (by decide)), if_neg (pre1_f (by decide)), if_neg (pre1_f (by decide)), if_pos (pre1_t (by decide)), List.drop_succ_cons, List.drop_zero]
  rfl
theorem termF_o (f : Nat) (c : UInt8) (r : List UInt8) (h1 : c ≠ 36) (h2 : c ≠ 120) (h3 : c ≠ 34) (h4 : c ≠ 91) : termF (f + 1) (c :: r) = if preS [40] r = true then (match partsF (termF f) [41] 34 [] (r.drop 1) with | some (l, r') => kindO [c] l r' | none => none) else none := by
  rw [termF, if_neg (pre1_f (decide_eq_false h1)), if_neg (pre1_f (decide_eq_false h2)), if_neg (pre1_f (decide_eq_false h3)), if_neg (pre1_f (decide_eq_false h4)), if_neg (by simp), List.drop_succ_cons, List.drop_zero]
  rfl
theorem had_t {p : List UInt8 × Int} {r : List UInt8} (h : p.2 = 0) : hadO p r = some (p.1, r) := by unfold hadO; rw [if_pos h]
theorem had_f {p : List UInt8 × Int} {r : List UInt8} (h : p.2 ≠ 0) : hadO p r = none := by unfold hadO; rw [if_neg h]
theorem data_t {s : List UInt8} (h : s.length ≤ 1024) : (dataS s).2 = 0 := by unfold dataS; rw [if_neg (by omega)]
theorem data_f {s : List UInt8} (h : 1024 < s.length) : (dataS s).2 ≠ 0 := by unfold dataS; rw [if_pos h]; decide
theorem byt_is (f : Nat) (r : List UInt8) : (∃ t, termF (f + 1) (120 :: r) = some (t, r.drop (hexS r).length) ∧ bytS r = (t, (hexS r).length)) ∨ (termF (f + 1) (120 :: r) = none ∧ bytS r = ([], 0)) := by
  rw [termF_120]
  unfold bytS
  by_cases h1 : (hexS r).length % 2 ≠ 0
  · rw [if_neg (fun h => h1 h.1), if_pos (.inl h1)]; exact .inr ⟨rfl, rfl⟩
  have hl : (hexP (hexS r)).length = (hexS r).length / 2 := hexP_len _ _ (by omega)
  by_cases hp : plainS (hexP (hexS r)) = true
  · right
    rw [if_neg (fun h => by rw [hp] at h; simp at h)]
    refine ⟨rfl, ?_⟩
    by_cases h2 : 2048 < (hexS r).length
    · rw [if_pos (.inr h2)]
    · rw [if_neg (fun h => h.elim h1 h2), if_pos hp]
  · rw [if_pos ⟨by omega, by simpa using hp⟩]
    by_cases h2 : 2048 < (hexS r).length
    · rw [if_pos (.inr h2), had_f (data_f (by omega))]; exact .inr ⟨rfl, rfl⟩
    · rw [if_neg (fun h => h.elim h1 h2), if_neg hp, had_t (data_t (by omega))]; exact .inl ⟨_, rfl, rfl⟩
theorem quo_is (f : Nat) (r : List UInt8) : (∃ t, termF (f + 1) (34 :: r) = some (t, (r.drop (qtS r)).drop 1) ∧ quoS r = (t, qtS r + 1) ∧ qtS r < r.length) ∨ (termF (f + 1) (34 :: r) = none ∧ quoS r = ([], 0)) := by
  rw [termF_34]
  unfold quoS
  by_cases hp : preS [34] (r.drop (whlS plB r)) = true
  · obtain ⟨h1, h2, h3⟩ := quo_a r hp
    rw [if_pos hp, h1]
    have hl : (r.take (qtS r)).length = qtS r := by rw [List.length_take]; omega
    by_cases h4 : 1024 < qtS r
    · rw [if_pos (.inr (.inl h4)), had_f (data_f (by omega))]; exact .inr ⟨rfl, rfl⟩
    · rw [if_neg (fun h => h.elim (fun a => by omega) (fun b => b.elim h4 (fun c => by rw [h3] at c; simp at c))), had_t (data_t (by omega))]; exact .inl ⟨_, rfl, rfl, h2⟩
  · rw [if_neg hp, if_pos]
    · exact .inr ⟨rfl, rfl⟩
    · have hql : qtS r ≤ r.length := List.IsPrefix.length_le (List.takeWhile_prefix _)
      by_cases h1 : qtS r = r.length
      · exact .inl h1
      · right; right
        cases hh : plainS (r.take (qtS r)) with
        | false => rfl
        | true => exact absurd (quo_b r (by omega) hh) hp
set_option maxRecDepth 20000 in
set_option maxHeartbeats 16000000 in
theorem rParse_all : ∀ f, RefC f := by
  intro f
  induction f with
  | zero =>
    intro d s w R hd hs h1 h0
    obtain rfl : d = 17 := by omega
    have hfin := h0 rfl 0 w (by omega) (Mod.refl _ _)
    by_cases he : s = []
    · subst he
      refine calls_go 4000 okT Try.func34 rfl (rs := [.tmp 4, .tmp 5]) rfl Try.ntmps34 (args := [.string ⟨([] : List UInt8).toArray⟩, .int .i64 ((17 : Nat) : Int)]) ?_
      simp (config := { maxSteps := 1000000 }) (disch := first | omega | (simp only [sizeAlloc, sizeDrew, sizeSet, sizePut] <;> omega) | fail) only [GS1, GS2, GS3, GS4, GS5, GS6, GS7, GS8, GS9, GS10, GS11, TT_eq, TTl, Nat.reduceAdd, Nat.reduceMul, Nat.reduceSub, Nat.reduceDiv, Nat.reduceMod, Nat.reducePow, Nat.reduceEqDiff, ↓reduceIte, reduceCtorEq, true_and, and_true, and_self, false_and, and_false, Int.reduceToNat, Int.reduceAdd, Int.reduceSub, Int.reduceMul, cond_true, cond_false, List.toList_toArray, Option.map_some, Option.map_none, Option.some.injEq, List.cons_append, List.nil_append, List.length_cons, List.length_nil, List.getD_cons_zero, List.getD_cons_succ, eq_self]
      exact hfin
    · have d0 : decide (s = []) = false := decide_eq_false he
      refine calls_go 4000 okT Try.func34 rfl (rs := [.tmp 4, .tmp 5]) rfl Try.ntmps34 (args := [.string ⟨s.toArray⟩, .int .i64 ((17 : Nat) : Int)]) ?_
      simp (config := { maxSteps := 1000000 }) (disch := first | omega | (simp only [sizeAlloc, sizeDrew, sizeSet, sizePut] <;> omega) | fail) only [GS1, GS2, GS3, GS4, GS5, GS6, GS7, GS8, GS9, GS10, GS11, TT_eq, TTl, Nat.reduceAdd, Nat.reduceMul, Nat.reduceSub, Nat.reduceDiv, Nat.reduceMod, Nat.reducePow, Nat.reduceEqDiff, ↓reduceIte, reduceCtorEq, true_and, and_true, and_self, false_and, and_false, Int.reduceToNat, Int.reduceAdd, Int.reduceSub, Int.reduceMul, cond_true, cond_false, List.toList_toArray, Option.map_some, Option.map_none, Option.some.injEq, List.cons_append, List.nil_append, List.length_cons, List.length_nil, List.getD_cons_zero, List.getD_cons_succ, d0]
      exact hfin
  | succ f ih =>
    intro d s w R hd hs h1 h0
    cases s with
    | nil =>
      have hfin := h0 (by rw [termF]; rfl) 0 w (by omega) (Mod.refl _ _)
      refine calls_go 4000 okT Try.func34 rfl (rs := [.tmp 4, .tmp 5]) rfl Try.ntmps34 (args := [.string ⟨([] : List UInt8).toArray⟩, .int .i64 d]) ?_
      simp (config := { maxSteps := 1000000 }) (disch := first | omega | (simp only [sizeAlloc, sizeDrew, sizeSet, sizePut] <;> omega) | fail) only [GS1, GS2, GS3, GS4, GS5, GS6, GS7, GS8, GS9, GS10, GS11, TT_eq, TTl, Nat.reduceAdd, Nat.reduceMul, Nat.reduceSub, Nat.reduceDiv, Nat.reduceMod, Nat.reducePow, Nat.reduceEqDiff, ↓reduceIte, reduceCtorEq, true_and, and_true, and_self, false_and, and_false, Int.reduceToNat, Int.reduceAdd, Int.reduceSub, Int.reduceMul, cond_true, cond_false, List.toList_toArray, Option.map_some, Option.map_none, Option.some.injEq, List.cons_append, List.nil_append, List.length_cons, List.length_nil, List.getD_cons_zero, List.getD_cons_succ, eq_self]
      exact hfin
    | cons c r =>
      simp only [List.length_cons] at hs
      have hrm : r.length ≤ maxLen := by unfold maxLen; omega
      have fin1 : ∀ t r' (k : Int) w', termF (f + 1) (c :: r) = some (t, r') → Mod [] w w' → k = ((r.length + 1 - r'.length : Nat) : Int) → R (.returned (.tuple #[.string ⟨t.toArray⟩, .int .i64 k])) w' := fun t r' k w' ht hM hk => by
        subst hk; exact h1 t r' w' ht hM
      have fin0 : ∀ (k : Int) w', termF (f + 1) (c :: r) = none → Mod [] w w' → 0 ≤ k → k ≤ r.length + 6 → R (.returned (.tuple #[.string ⟨([] : List UInt8).toArray⟩, .int .i64 k])) w' := fun k w' ht hM hk hk2 => by
        obtain ⟨n, rfl⟩ := Int.eq_ofNat_of_zero_le hk
        exact h0 ht n w' (by simp only [List.length_cons]; omega) hM
      clear h1 h0
      have d0 : decide (c :: r = []) = false := decide_eq_false (by simp)
      have gc : (c :: r).getD 0 0 = c := rfl
      have hcl := c.toNat_lt
      have hsl : (c :: r).length = r.length + 1 := rfl
      have hdr : (c :: r).drop 1 = r := rfl
      refine calls_go 4000 okT Try.func34 rfl (rs := [.tmp 4, .tmp 5]) rfl Try.ntmps34 (args := [.string ⟨(c :: r).toArray⟩, .int .i64 d]) ?_
      by_cases c1 : c = 36
      · have n1 : c.toNat = 36 := by rw [c1]; rfl
        simp (config := { maxSteps := 1000000 }) (disch := first | omega | (simp only [sizeAlloc, sizeDrew, sizeSet, sizePut] <;> omega) | fail) only [GS1, GS2, GS3, GS4, GS5, GS6, GS7, GS8, GS9, GS10, GS11, TT_eq, TTl, Nat.reduceAdd, Nat.reduceMul, Nat.reduceSub, Nat.reduceDiv, Nat.reduceMod, Nat.reducePow, Nat.reduceEqDiff, ↓reduceIte, reduceCtorEq, true_and, and_true, and_self, false_and, and_false, Int.reduceToNat, Int.reduceAdd, Int.reduceSub, Int.reduceMul, cond_true, cond_false, List.toList_toArray, Option.map_some, Option.map_none, Option.some.injEq, List.cons_append, List.nil_append, List.length_cons, List.length_nil, List.getD_cons_zero, List.getD_cons_succ, d0, gc, hdr]
        refine ⟨fok64, rAtom7_cps r hrm _ _ fun w1 hM => .inl ⟨_, rfl, hold_ops okT (rs := [.tmp 4, .tmp 5]) rfl ?_⟩⟩
        have hle : (nmS r).length ≤ r.length := List.IsPrefix.length_le (List.takeWhile_prefix _)
        have hT := termF_36 f r
        rw [← c1] at hT
        have hdl : (r.drop (nmS r).length).length = r.length - (nmS r).length := List.length_drop
        have hE := atom_err (s := nmS r)
        generalize atomS (nmS r) = P at *
        obtain ⟨tt, ee⟩ := P
        simp only at hE ⊢
        simp (config := { maxSteps := 1000000 }) (disch := first | omega | (simp only [sizeAlloc, sizeDrew, sizeSet, sizePut] <;> omega) | fail) only [GS1, GS2, GS3, GS4, GS5, GS6, GS7, GS8, GS9, GS10, GS11, TT_eq, TTl, Nat.reduceAdd, Nat.reduceMul, Nat.reduceSub, Nat.reduceDiv, Nat.reduceMod, Nat.reducePow, Nat.reduceEqDiff, ↓reduceIte, reduceCtorEq, true_and, and_true, and_self, false_and, and_false, Int.reduceToNat, Int.reduceAdd, Int.reduceSub, Int.reduceMul, cond_true, cond_false, List.toList_toArray, Option.map_some, Option.map_none, Option.some.injEq, List.cons_append, List.nil_append, List.length_cons, List.length_nil, List.getD_cons_zero, List.getD_cons_succ]
        by_cases h0 : ee = 0
        · rw [had_t h0] at hT
          exact fin1 _ _ _ _ hT hM (by rw [hdl]; omega)
        · rw [had_f h0] at hT
          rw [hE h0]
          exact fin0 _ _ hT hM (by omega) (by omega)
      by_cases c2 : c = 120
      · have n1 : c.toNat = 120 := by rw [c2]; rfl
        simp (config := { maxSteps := 1000000 }) (disch := first | omega | (simp only [sizeAlloc, sizeDrew, sizeSet, sizePut] <;> omega) | fail) only [GS1, GS2, GS3, GS4, GS5, GS6, GS7, GS8, GS9, GS10, GS11, TT_eq, TTl, Nat.reduceAdd, Nat.reduceMul, Nat.reduceSub, Nat.reduceDiv, Nat.reduceMod, Nat.reducePow, Nat.reduceEqDiff, ↓reduceIte, reduceCtorEq, true_and, and_true, and_self, false_and, and_false, Int.reduceToNat, Int.reduceAdd, Int.reduceSub, Int.reduceMul, cond_true, cond_false, List.toList_toArray, Option.map_some, Option.map_none, Option.some.injEq, List.cons_append, List.nil_append, List.length_cons, List.length_nil, List.getD_cons_zero, List.getD_cons_succ, d0, gc, hdr]
        refine ⟨fok65, rBytes7_cps r (by omega) _ _ fun w1 hM => .inl ⟨_, rfl, hold_ops okT (rs := [.tmp 4, .tmp 5]) rfl ?_⟩⟩
        have hle : (hexS r).length ≤ r.length := List.IsPrefix.length_le (List.takeWhile_prefix _)
        have hdl : (r.drop (hexS r).length).length = r.length - (hexS r).length := List.length_drop
        have hT := byt_is f r
        rw [← c2] at hT
        rcases hT with ⟨t, hT, hB⟩ | ⟨hT, hB⟩
        · rw [hB]
          unfold siV
          simp (config := { maxSteps := 1000000 }) (disch := first | omega | (simp only [sizeAlloc, sizeDrew, sizeSet, sizePut] <;> omega) | fail) only [GS1, GS2, GS3, GS4, GS5, GS6, GS7, GS8, GS9, GS10, GS11, TT_eq, TTl, Nat.reduceAdd, Nat.reduceMul, Nat.reduceSub, Nat.reduceDiv, Nat.reduceMod, Nat.reducePow, Nat.reduceEqDiff, ↓reduceIte, reduceCtorEq, true_and, and_true, and_self, false_and, and_false, Int.reduceToNat, Int.reduceAdd, Int.reduceSub, Int.reduceMul, cond_true, cond_false, List.toList_toArray, Option.map_some, Option.map_none, Option.some.injEq, List.cons_append, List.nil_append, List.length_cons, List.length_nil, List.getD_cons_zero, List.getD_cons_succ]
          exact fin1 _ _ _ _ hT hM (by rw [hdl]; omega)
        · rw [hB]
          unfold siV
          simp (config := { maxSteps := 1000000 }) (disch := first | omega | (simp only [sizeAlloc, sizeDrew, sizeSet, sizePut] <;> omega) | fail) only [GS1, GS2, GS3, GS4, GS5, GS6, GS7, GS8, GS9, GS10, GS11, TT_eq, TTl, Nat.reduceAdd, Nat.reduceMul, Nat.reduceSub, Nat.reduceDiv, Nat.reduceMod, Nat.reducePow, Nat.reduceEqDiff, ↓reduceIte, reduceCtorEq, true_and, and_true, and_self, false_and, and_false, Int.reduceToNat, Int.reduceAdd, Int.reduceSub, Int.reduceMul, cond_true, cond_false, List.toList_toArray, Option.map_some, Option.map_none, Option.some.injEq, List.cons_append, List.nil_append, List.length_cons, List.length_nil, List.getD_cons_zero, List.getD_cons_succ]
          exact fin0 _ _ hT hM (by omega) (by omega)
      by_cases c3 : c = 34
      · have n1 : c.toNat = 34 := by rw [c3]; rfl
        simp (config := { maxSteps := 1000000 }) (disch := first | omega | (simp only [sizeAlloc, sizeDrew, sizeSet, sizePut] <;> omega) | fail) only [GS1, GS2, GS3, GS4, GS5, GS6, GS7, GS8, GS9, GS10, GS11, TT_eq, TTl, Nat.reduceAdd, Nat.reduceMul, Nat.reduceSub, Nat.reduceDiv, Nat.reduceMod, Nat.reducePow, Nat.reduceEqDiff, ↓reduceIte, reduceCtorEq, true_and, and_true, and_self, false_and, and_false, Int.reduceToNat, Int.reduceAdd, Int.reduceSub, Int.reduceMul, cond_true, cond_false, List.toList_toArray, Option.map_some, Option.map_none, Option.some.injEq, List.cons_append, List.nil_append, List.length_cons, List.length_nil, List.getD_cons_zero, List.getD_cons_succ, d0, gc, hdr]
        refine ⟨fok66, rQuoted7_cps r (by omega) _ _ fun w1 hM => .inl ⟨_, rfl, hold_ops okT (rs := [.tmp 4, .tmp 5]) rfl ?_⟩⟩
        have hdl : ((r.drop (qtS r)).drop 1).length = r.length - qtS r - 1 := by rw [List.length_drop, List.length_drop]
        have hT := quo_is f r
        rw [← c3] at hT
        rcases hT with ⟨t, hT, hB, hle⟩ | ⟨hT, hB⟩
        · rw [hB]
          unfold siV
          simp (config := { maxSteps := 1000000 }) (disch := first | omega | (simp only [sizeAlloc, sizeDrew, sizeSet, sizePut] <;> omega) | fail) only [GS1, GS2, GS3, GS4, GS5, GS6, GS7, GS8, GS9, GS10, GS11, TT_eq, TTl, Nat.reduceAdd, Nat.reduceMul, Nat.reduceSub, Nat.reduceDiv, Nat.reduceMod, Nat.reducePow, Nat.reduceEqDiff, ↓reduceIte, reduceCtorEq, true_and, and_true, and_self, false_and, and_false, Int.reduceToNat, Int.reduceAdd, Int.reduceSub, Int.reduceMul, cond_true, cond_false, List.toList_toArray, Option.map_some, Option.map_none, Option.some.injEq, List.cons_append, List.nil_append, List.length_cons, List.length_nil, List.getD_cons_zero, List.getD_cons_succ]
          exact fin1 _ _ _ _ hT hM (by rw [hdl]; omega)
        · rw [hB]
          unfold siV
          simp (config := { maxSteps := 1000000 }) (disch := first | omega | (simp only [sizeAlloc, sizeDrew, sizeSet, sizePut] <;> omega) | fail) only [GS1, GS2, GS3, GS4, GS5, GS6, GS7, GS8, GS9, GS10, GS11, TT_eq, TTl, Nat.reduceAdd, Nat.reduceMul, Nat.reduceSub, Nat.reduceDiv, Nat.reduceMod, Nat.reducePow, Nat.reduceEqDiff, ↓reduceIte, reduceCtorEq, true_and, and_true, and_self, false_and, and_false, Int.reduceToNat, Int.reduceAdd, Int.reduceSub, Int.reduceMul, cond_true, cond_false, List.toList_toArray, Option.map_some, Option.map_none, Option.some.injEq, List.cons_append, List.nil_append, List.length_cons, List.length_nil, List.getD_cons_zero, List.getD_cons_succ]
          exact fin0 _ _ hT hM (by omega) (by omega)
      by_cases c4 : c = 91
      · have n1 : c.toNat = 91 := by rw [c4]; rfl
        have ed : (d : Int) + 1 = ((d + 1 : Nat) : Int) := by omega
        have hT := termF_91 f r
        rw [← c4] at hT
        simp (config := { maxSteps := 1000000 }) (disch := first | omega | (simp only [sizeAlloc, sizeDrew, sizeSet, sizePut] <;> omega) | fail) only [GS1, GS2, GS3, GS4, GS5, GS6, GS7, GS8, GS9, GS10, GS11, TT_eq, TTl, Nat.reduceAdd, Nat.reduceMul, Nat.reduceSub, Nat.reduceDiv, Nat.reduceMod, Nat.reducePow, Nat.reduceEqDiff, ↓reduceIte, reduceCtorEq, true_and, and_true, and_self, false_and, and_false, Int.reduceToNat, Int.reduceAdd, Int.reduceSub, Int.reduceMul, cond_true, cond_false, List.toList_toArray, Option.map_some, Option.map_none, Option.some.injEq, List.cons_append, List.nil_append, List.length_cons, List.length_nil, List.getD_cons_zero, List.getD_cons_succ, d0, gc, hdr, ed]
        refine ⟨fok67, rParts_cps f (d + 1) (by omega) ih 93 r _ _ (by omega) (fun l r' lv w1 hp hrl hown hM => .inl ⟨_, rfl, hold_ops okT (rs := [.tmp 4, .tmp 5]) rfl ?_⟩) (fun hp w1 hM => .inl ⟨_, rfl, hold_ops okT (rs := [.tmp 4, .tmp 5]) rfl ?_⟩)⟩
        · rw [hp] at hT
          simp only at hT
          have hok := partsF_ok (fun a b c e => (termF_ok f a b c e).2) [93] 34 [] _ _ _ (by simp) (by simp) hp
          obtain ⟨la, lc, rfl⟩ := (Rd.own hown).slice
          simp (config := { maxSteps := 1000000 }) (disch := first | omega | (simp only [sizeAlloc, sizeDrew, sizeSet, sizePut] <;> omega) | fail) only [GS1, GS2, GS3, GS4, GS5, GS6, GS7, GS8, GS9, GS10, GS11, TT_eq, TTl, Nat.reduceAdd, Nat.reduceMul, Nat.reduceSub, Nat.reduceDiv, Nat.reduceMod, Nat.reducePow, Nat.reduceEqDiff, ↓reduceIte, reduceCtorEq, true_and, and_true, and_self, false_and, and_false, Int.reduceToNat, Int.reduceAdd, Int.reduceSub, Int.reduceMul, cond_true, cond_false, List.toList_toArray, Option.map_some, Option.map_none, Option.some.injEq, List.cons_append, List.nil_append, List.length_cons, List.length_nil, List.getD_cons_zero, List.getD_cons_succ]
          refine ⟨fok68, rRow_cps _ l _ _ (by omega) (fun s hs => by have := (check0 (hok.1 s hs)).2.2.1; omega) (Rd.own hown) fun w2 hM2 => .inl ⟨_, rfl, hold_ops okT (rs := [.tmp 4, .tmp 5]) rfl ?_⟩⟩
          have hM2 := hM.trans hM2 (by simp)
          have hE := made_err (f := 114 :: numL l.length) (l := l)
          generalize madeS (114 :: numL l.length) l = P at *
          obtain ⟨tt, ee⟩ := P
          simp only at hE
          unfold stV
          simp (config := { maxSteps := 1000000 }) (disch := first | omega | (simp only [sizeAlloc, sizeDrew, sizeSet, sizePut] <;> omega) | fail) only [GS1, GS2, GS3, GS4, GS5, GS6, GS7, GS8, GS9, GS10, GS11, TT_eq, TTl, Nat.reduceAdd, Nat.reduceMul, Nat.reduceSub, Nat.reduceDiv, Nat.reduceMod, Nat.reducePow, Nat.reduceEqDiff, ↓reduceIte, reduceCtorEq, true_and, and_true, and_self, false_and, and_false, Int.reduceToNat, Int.reduceAdd, Int.reduceSub, Int.reduceMul, cond_true, cond_false, List.toList_toArray, Option.map_some, Option.map_none, Option.some.injEq, List.cons_append, List.nil_append, List.length_cons, List.length_nil, List.getD_cons_zero, List.getD_cons_succ]
          by_cases h0 : ee = 0
          · rw [had_t h0] at hT
            exact fin1 _ _ _ _ hT hM2 (by omega)
          · rw [had_f h0] at hT
            rw [hE h0]
            exact fin0 _ _ hT hM2 (by omega) (by omega)
        · rw [hp] at hT
          simp (config := { maxSteps := 1000000 }) (disch := first | omega | (simp only [sizeAlloc, sizeDrew, sizeSet, sizePut] <;> omega) | fail) only [GS1, GS2, GS3, GS4, GS5, GS6, GS7, GS8, GS9, GS10, GS11, TT_eq, TTl, Nat.reduceAdd, Nat.reduceMul, Nat.reduceSub, Nat.reduceDiv, Nat.reduceMod, Nat.reducePow, Nat.reduceEqDiff, ↓reduceIte, reduceCtorEq, true_and, and_true, and_self, false_and, and_false, Int.reduceToNat, Int.reduceAdd, Int.reduceSub, Int.reduceMul, cond_true, cond_false, List.toList_toArray, Option.map_some, Option.map_none, Option.some.injEq, List.cons_append, List.nil_append, List.length_cons, List.length_nil, List.getD_cons_zero, List.getD_cons_succ]
          exact fin0 _ _ hT hM (by omega) (by omega)
      have n1 : c.toNat ≠ 36 := fun e => c1 (UInt8.toNat_inj.1 e)
      have n2 : c.toNat ≠ 120 := fun e => c2 (UInt8.toNat_inj.1 e)
      have n3 : c.toNat ≠ 34 := fun e => c3 (UInt8.toNat_inj.1 e)
      have n4 : c.toNat ≠ 91 := fun e => c4 (UInt8.toNat_inj.1 e)
      have hT := termF_o f c r c1 c2 c3 c4
      cases r with
      | nil =>
        rw [if_neg (by decide)] at hT
        simp (config := { maxSteps := 1000000 }) (disch := first | omega | (simp only [sizeAlloc, sizeDrew, sizeSet, sizePut] <;> omega) | fail) only [GS1, GS2, GS3, GS4, GS5, GS6, GS7, GS8, GS9, GS10, GS11, TT_eq, TTl, Nat.reduceAdd, Nat.reduceMul, Nat.reduceSub, Nat.reduceDiv, Nat.reduceMod, Nat.reducePow, Nat.reduceEqDiff, ↓reduceIte, reduceCtorEq, true_and, and_true, and_self, false_and, and_false, Int.reduceToNat, Int.reduceAdd, Int.reduceSub, Int.reduceMul, cond_true, cond_false, List.toList_toArray, Option.map_some, Option.map_none, Option.some.injEq, List.cons_append, List.nil_append, List.length_cons, List.length_nil, List.getD_cons_zero, List.getD_cons_succ, d0, gc, hdr]
        exact fin0 _ _ hT (Mod.refl _ _) (by omega) (by omega)
      | cons b r =>
        simp only [List.length_cons] at hs hsl fin1 fin0
        have gb : (c :: b :: r).getD 1 0 = b := rfl
        have hdr2 : (c :: b :: r).drop 2 = r := rfl
        have hbl := b.toNat_lt
        by_cases hb : b = 40
        · rw [if_pos (pre1_t (decide_eq_true hb)), List.drop_succ_cons, List.drop_zero] at hT
          have nb : b.toNat = 40 := by rw [hb]; rfl
          have ed : (d : Int) + 1 = ((d + 1 : Nat) : Int) := by omega
          simp (config := { maxSteps := 1000000 }) (disch := first | omega | (simp only [sizeAlloc, sizeDrew, sizeSet, sizePut] <;> omega) | fail) only [GS1, GS2, GS3, GS4, GS5, GS6, GS7, GS8, GS9, GS10, GS11, TT_eq, TTl, Nat.reduceAdd, Nat.reduceMul, Nat.reduceSub, Nat.reduceDiv, Nat.reduceMod, Nat.reducePow, Nat.reduceEqDiff, ↓reduceIte, reduceCtorEq, true_and, and_true, and_self, false_and, and_false, Int.reduceToNat, Int.reduceAdd, Int.reduceSub, Int.reduceMul, cond_true, cond_false, List.toList_toArray, Option.map_some, Option.map_none, Option.some.injEq, List.cons_append, List.nil_append, List.length_cons, List.length_nil, List.getD_cons_zero, List.getD_cons_succ, d0, gc, gb, hdr2, ed]
          refine ⟨fok67, rParts_cps f (d + 1) (by omega) ih 41 r _ _ (by omega) (fun l r' lv w1 hp hrl hown hM => .inl ⟨_, rfl, hold_ops okT (rs := [.tmp 4, .tmp 5]) rfl ?_⟩) (fun hp w1 hM => .inl ⟨_, rfl, hold_ops okT (rs := [.tmp 4, .tmp 5]) rfl ?_⟩)⟩
          · rw [hp] at hT
            simp only at hT
            have hok := partsF_ok (fun a b c e => (termF_ok f a b c e).2) [41] 34 [] _ _ _ (by simp) (by simp) hp
            obtain ⟨la, lc, rfl⟩ := (Rd.own hown).slice
            by_cases k : c = 104
            · by_cases hl : l.length = 1
              · have hK : kindO [c] l r' = hadO (madeS [104] l) r' := by unfold kindO; rw [if_pos (.inl ⟨by rw [k], hl⟩), k]
                rw [hK] at hT
                have n5 : c.toNat = 104 := by rw [k]; rfl
                obtain ⟨a, rfl⟩ : ∃ a, l = [a] := List.length_eq_one_iff.1 hl
                obtain ⟨b1, o1, c1', e1, _, g1⟩ := (Rd.own hown).at (by omega) (by simp)
                have f1 : w1.cell? ⟨b1, o1, none⟩ = some (.string ⟨a.toArray⟩) := g1 0 _ rfl
                rw [Value.slice.injEq] at e1
                obtain ⟨rfl, -, -⟩ := e1
                have z1 := (check0 (hok.1 a (by simp))).2.2.1
                simp (config := { maxSteps := 1000000 }) (disch := first | omega | (simp only [sizeAlloc, sizeDrew, sizeSet, sizePut] <;> omega) | fail) only [GS1, GS2, GS3, GS4, GS5, GS6, GS7, GS8, GS9, GS10, GS11, TT_eq, TTl, Nat.reduceAdd, Nat.reduceMul, Nat.reduceSub, Nat.reduceDiv, Nat.reduceMod, Nat.reducePow, Nat.reduceEqDiff, ↓reduceIte, reduceCtorEq, true_and, and_true, and_self, false_and, and_false, Int.reduceToNat, Int.reduceAdd, Int.reduceSub, Int.reduceMul, cond_true, cond_false, List.toList_toArray, Option.map_some, Option.map_none, Option.some.injEq, List.cons_append, List.nil_append, List.length_cons, List.length_nil, List.getD_cons_zero, List.getD_cons_succ, gc, f1]
                refine ⟨fok69, rHash_cps a (by omega) _ _ fun w2 hM2 => .inl ⟨_, rfl, hold_ops okT (rs := [.tmp 4, .tmp 5]) rfl ?_⟩⟩
                have hM2 := hM.trans hM2 (by simp)
                have hE := made_err (f := [104]) (l := [a])
                generalize madeS [104] [a] = P at *
                obtain ⟨tt, ee⟩ := P
                simp only at hE
                unfold stV
                simp (config := { maxSteps := 1000000 }) (disch := first | omega | (simp only [sizeAlloc, sizeDrew, sizeSet, sizePut] <;> omega) | fail) only [GS1, GS2, GS3, GS4, GS5, GS6, GS7, GS8, GS9, GS10, GS11, TT_eq, TTl, Nat.reduceAdd, Nat.reduceMul, Nat.reduceSub, Nat.reduceDiv, Nat.reduceMod, Nat.reducePow, Nat.reduceEqDiff, ↓reduceIte, reduceCtorEq, true_and, and_true, and_self, false_and, and_false, Int.reduceToNat, Int.reduceAdd, Int.reduceSub, Int.reduceMul, cond_true, cond_false, List.toList_toArray, Option.map_some, Option.map_none, Option.some.injEq, List.cons_append, List.nil_append, List.length_cons, List.length_nil, List.getD_cons_zero, List.getD_cons_succ]
                by_cases h0 : ee = 0
                · rw [had_t h0] at hT
                  exact fin1 _ _ _ _ hT hM2 (by omega)
                · rw [had_f h0] at hT
                  rw [hE h0]
                  exact fin0 _ _ hT hM2 (by omega) (by omega)
              · have hK : kindO [c] l r' = none := by unfold kindO; rw [if_neg (by rw [k]; rintro (⟨h, h2⟩ | ⟨h, h2⟩ | ⟨h, h2⟩) <;> first | omega | simp at h)]
                rw [hK] at hT
                have n5 : c.toNat = 104 := by rw [k]; rfl
                simp (config := { maxSteps := 1000000 }) (disch := first | omega | (simp only [sizeAlloc, sizeDrew, sizeSet, sizePut] <;> omega) | fail) only [GS1, GS2, GS3, GS4, GS5, GS6, GS7, GS8, GS9, GS10, GS11, TT_eq, TTl, Nat.reduceAdd, Nat.reduceMul, Nat.reduceSub, Nat.reduceDiv, Nat.reduceMod, Nat.reducePow, Nat.reduceEqDiff, ↓reduceIte, reduceCtorEq, true_and, and_true, and_self, false_and, and_false, Int.reduceToNat, Int.reduceAdd, Int.reduceSub, Int.reduceMul, cond_true, cond_false, List.toList_toArray, Option.map_some, Option.map_none, Option.some.injEq, List.cons_append, List.nil_append, List.length_cons, List.length_nil, List.getD_cons_zero, List.getD_cons_succ, gc]
                exact fin0 _ _ hT hM (by omega) (by omega)
            have k1 := k
            clear k
            by_cases k : c = 109
            · by_cases hl : l.length = 2
              · have hK : kindO [c] l r' = hadO (madeS [109] l) r' := by unfold kindO; rw [if_pos (.inr (.inl ⟨by rw [k], hl⟩)), k]
                rw [hK] at hT
                have n5 : c.toNat = 109 := by rw [k]; rfl
                obtain ⟨a, b2, rfl⟩ := len2 hl
                obtain ⟨b1, o1, c1', e1, _, g1⟩ := (Rd.own hown).at (by omega) (by simp)
                have f1 : w1.cell? ⟨b1, o1, none⟩ = some (.string ⟨a.toArray⟩) := g1 0 _ rfl
                have f2 : w1.cell? ⟨b1, o1 + 1, none⟩ = some (.string ⟨b2.toArray⟩) := g1 1 _ rfl
                rw [Value.slice.injEq] at e1
                obtain ⟨rfl, -, -⟩ := e1
                have z1 := (check0 (hok.1 a (by simp))).2.2.1
                have z2 := (check0 (hok.1 b2 (by simp))).2.2.1
                simp (config := { maxSteps := 1000000 }) (disch := first | omega | (simp only [sizeAlloc, sizeDrew, sizeSet, sizePut] <;> omega) | fail) only [GS1, GS2, GS3, GS4, GS5, GS6, GS7, GS8, GS9, GS10, GS11, TT_eq, TTl, Nat.reduceAdd, Nat.reduceMul, Nat.reduceSub, Nat.reduceDiv, Nat.reduceMod, Nat.reducePow, Nat.reduceEqDiff, ↓reduceIte, reduceCtorEq, true_and, and_true, and_self, false_and, and_false, Int.reduceToNat, Int.reduceAdd, Int.reduceSub, Int.reduceMul, cond_true, cond_false, List.toList_toArray, Option.map_some, Option.map_none, Option.some.injEq, List.cons_append, List.nil_append, List.length_cons, List.length_nil, List.getD_cons_zero, List.getD_cons_succ, gc]
                refine hold_draw okT (rs := [.tmp 4, .tmp 5]) rfl [0, 1, 3, 0, 8, 24, 63, 127, 255, 255, 511] [0, 1, 2, 3, 4, 5, 6, 7, 8, 9, 10] (by kernel_rfl) (by kernel_rfl) ?_
                have hM' : Mod [] w (w1.drewN 1) := hM.drewN 1
                simp (config := { maxSteps := 1000000 }) (disch := first | omega | (simp only [sizeAlloc, sizeDrew, sizeSet, sizePut] <;> omega) | fail) only [GS1, GS2, GS3, GS4, GS5, GS6, GS7, GS8, GS9, GS10, GS11, TT_eq, TTl, Nat.reduceAdd, Nat.reduceMul, Nat.reduceSub, Nat.reduceDiv, Nat.reduceMod, Nat.reducePow, Nat.reduceEqDiff, ↓reduceIte, reduceCtorEq, true_and, and_true, and_self, false_and, and_false, Int.reduceToNat, Int.reduceAdd, Int.reduceSub, Int.reduceMul, cond_true, cond_false, List.toList_toArray, Option.map_some, Option.map_none, Option.some.injEq, List.cons_append, List.nil_append, List.length_cons, List.length_nil, List.getD_cons_zero, List.getD_cons_succ, f1, f2]
                refine ⟨fok70, rMac_cps a b2 (by omega) (by omega) _ _ fun w2 hM2 => .inl ⟨_, rfl, hold_dops okT (rs := [.tmp 4, .tmp 5]) rfl ?_⟩⟩
                have hM2 := hM'.trans hM2 (by simp)
                have hE := made_err (f := [109]) (l := [a, b2])
                generalize madeS [109] [a, b2] = P at *
                obtain ⟨tt, ee⟩ := P
                simp only at hE
                unfold stV
                simp (config := { maxSteps := 1000000 }) (disch := first | omega | (simp only [sizeAlloc, sizeDrew, sizeSet, sizePut] <;> omega) | fail) only [GS1, GS2, GS3, GS4, GS5, GS6, GS7, GS8, GS9, GS10, GS11, TT_eq, TTl, Nat.reduceAdd, Nat.reduceMul, Nat.reduceSub, Nat.reduceDiv, Nat.reduceMod, Nat.reducePow, Nat.reduceEqDiff, ↓reduceIte, reduceCtorEq, true_and, and_true, and_self, false_and, and_false, Int.reduceToNat, Int.reduceAdd, Int.reduceSub, Int.reduceMul, cond_true, cond_false, List.toList_toArray, Option.map_some, Option.map_none, Option.some.injEq, List.cons_append, List.nil_append, List.length_cons, List.length_nil, List.getD_cons_zero, List.getD_cons_succ]
                by_cases h0 : ee = 0
                · rw [had_t h0] at hT
                  exact fin1 _ _ _ _ hT hM2 (by omega)
                · rw [had_f h0] at hT
                  rw [hE h0]
                  exact fin0 _ _ hT hM2 (by omega) (by omega)
              · have hK : kindO [c] l r' = none := by unfold kindO; rw [if_neg (by rw [k]; rintro (⟨h, h2⟩ | ⟨h, h2⟩ | ⟨h, h2⟩) <;> first | omega | simp at h)]
                rw [hK] at hT
                have n5 : c.toNat = 109 := by rw [k]; rfl
                simp (config := { maxSteps := 1000000 }) (disch := first | omega | (simp only [sizeAlloc, sizeDrew, sizeSet, sizePut] <;> omega) | fail) only [GS1, GS2, GS3, GS4, GS5, GS6, GS7, GS8, GS9, GS10, GS11, TT_eq, TTl, Nat.reduceAdd, Nat.reduceMul, Nat.reduceSub, Nat.reduceDiv, Nat.reduceMod, Nat.reducePow, Nat.reduceEqDiff, ↓reduceIte, reduceCtorEq, true_and, and_true, and_self, false_and, and_false, Int.reduceToNat, Int.reduceAdd, Int.reduceSub, Int.reduceMul, cond_true, cond_false, List.toList_toArray, Option.map_some, Option.map_none, Option.some.injEq, List.cons_append, List.nil_append, List.length_cons, List.length_nil, List.getD_cons_zero, List.getD_cons_succ, gc]
                exact fin0 _ _ hT hM (by omega) (by omega)
            have k2 := k
            clear k
            by_cases k : c = 115
            · by_cases hl : l.length = 3
              · have hK : kindO [c] l r' = hadO (madeS [115] l) r' := by unfold kindO; rw [if_pos (.inr (.inr ⟨by rw [k], hl⟩)), k]
                rw [hK] at hT
                have n5 : c.toNat = 115 := by rw [k]; rfl
                obtain ⟨a, b2, x2, rfl⟩ := len3 hl
                obtain ⟨b1, o1, c1', e1, _, g1⟩ := (Rd.own hown).at (by omega) (by simp)
                have f1 : w1.cell? ⟨b1, o1, none⟩ = some (.string ⟨a.toArray⟩) := g1 0 _ rfl
                have f2 : w1.cell? ⟨b1, o1 + 1, none⟩ = some (.string ⟨b2.toArray⟩) := g1 1 _ rfl
                have f3 : w1.cell? ⟨b1, o1 + 2, none⟩ = some (.string ⟨x2.toArray⟩) := g1 2 _ rfl
                rw [Value.slice.injEq] at e1
                obtain ⟨rfl, -, -⟩ := e1
                have z1 := (check0 (hok.1 a (by simp))).2.2.1
                have z2 := (check0 (hok.1 b2 (by simp))).2.2.1
                have z3 := (check0 (hok.1 x2 (by simp))).2.2.1
                simp (config := { maxSteps := 1000000 }) (disch := first | omega | (simp only [sizeAlloc, sizeDrew, sizeSet, sizePut] <;> omega) | fail) only [GS1, GS2, GS3, GS4, GS5, GS6, GS7, GS8, GS9, GS10, GS11, TT_eq, TTl, Nat.reduceAdd, Nat.reduceMul, Nat.reduceSub, Nat.reduceDiv, Nat.reduceMod, Nat.reducePow, Nat.reduceEqDiff, ↓reduceIte, reduceCtorEq, true_and, and_true, and_self, false_and, and_false, Int.reduceToNat, Int.reduceAdd, Int.reduceSub, Int.reduceMul, cond_true, cond_false, List.toList_toArray, Option.map_some, Option.map_none, Option.some.injEq, List.cons_append, List.nil_append, List.length_cons, List.length_nil, List.getD_cons_zero, List.getD_cons_succ, gc]
                refine hold_draw okT (rs := [.tmp 4, .tmp 5]) rfl [0, 1, 3, 0, 8, 24, 0, 64, 192, 511, 1023, 2047, 2047, 4095] [0, 1, 2, 3, 4, 5, 6, 7, 8, 9, 10, 11, 12, 13] (by kernel_rfl) (by kernel_rfl) ?_
                have hM' : Mod [] w (w1.drewN 1) := hM.drewN 1
                simp (config := { maxSteps := 1000000 }) (disch := first | omega | (simp only [sizeAlloc, sizeDrew, sizeSet, sizePut] <;> omega) | fail) only [GS1, GS2, GS3, GS4, GS5, GS6, GS7, GS8, GS9, GS10, GS11, TT_eq, TTl, Nat.reduceAdd, Nat.reduceMul, Nat.reduceSub, Nat.reduceDiv, Nat.reduceMod, Nat.reducePow, Nat.reduceEqDiff, ↓reduceIte, reduceCtorEq, true_and, and_true, and_self, false_and, and_false, Int.reduceToNat, Int.reduceAdd, Int.reduceSub, Int.reduceMul, cond_true, cond_false, List.toList_toArray, Option.map_some, Option.map_none, Option.some.injEq, List.cons_append, List.nil_append, List.length_cons, List.length_nil, List.getD_cons_zero, List.getD_cons_succ, f1, f2, f3]
                refine ⟨fok71, rSeal_cps a b2 x2 (by omega) (by omega) (by omega) _ _ fun w2 hM2 => .inl ⟨_, rfl, hold_dops okT (rs := [.tmp 4, .tmp 5]) rfl ?_⟩⟩
                have hM2 := hM'.trans hM2 (by simp)
                have hE := made_err (f := [115]) (l := [a, b2, x2])
                generalize madeS [115] [a, b2, x2] = P at *
                obtain ⟨tt, ee⟩ := P
                simp only at hE
                unfold stV
                simp (config := { maxSteps := 1000000 }) (disch := first | omega | (simp only [sizeAlloc, sizeDrew, sizeSet, sizePut] <;> omega) | fail) only [GS1, GS2, GS3, GS4, GS5, GS6, GS7, GS8, GS9, GS10, GS11, TT_eq, TTl, Nat.reduceAdd, Nat.reduceMul, Nat.reduceSub, Nat.reduceDiv, Nat.reduceMod, Nat.reducePow, Nat.reduceEqDiff, ↓reduceIte, reduceCtorEq, true_and, and_true, and_self, false_and, and_false, Int.reduceToNat, Int.reduceAdd, Int.reduceSub, Int.reduceMul, cond_true, cond_false, List.toList_toArray, Option.map_some, Option.map_none, Option.some.injEq, List.cons_append, List.nil_append, List.length_cons, List.length_nil, List.getD_cons_zero, List.getD_cons_succ]
                by_cases h0 : ee = 0
                · rw [had_t h0] at hT
                  exact fin1 _ _ _ _ hT hM2 (by omega)
                · rw [had_f h0] at hT
                  rw [hE h0]
                  exact fin0 _ _ hT hM2 (by omega) (by omega)
              · have hK : kindO [c] l r' = none := by unfold kindO; rw [if_neg (by rw [k]; rintro (⟨h, h2⟩ | ⟨h, h2⟩ | ⟨h, h2⟩) <;> first | omega | simp at h)]
                rw [hK] at hT
                have n5 : c.toNat = 115 := by rw [k]; rfl
                simp (config := { maxSteps := 1000000 }) (disch := first | omega | (simp only [sizeAlloc, sizeDrew, sizeSet, sizePut] <;> omega) | fail) only [GS1, GS2, GS3, GS4, GS5, GS6, GS7, GS8, GS9, GS10, GS11, TT_eq, TTl, Nat.reduceAdd, Nat.reduceMul, Nat.reduceSub, Nat.reduceDiv, Nat.reduceMod, Nat.reducePow, Nat.reduceEqDiff, ↓reduceIte, reduceCtorEq, true_and, and_true, and_self, false_and, and_false, Int.reduceToNat, Int.reduceAdd, Int.reduceSub, Int.reduceMul, cond_true, cond_false, List.toList_toArray, Option.map_some, Option.map_none, Option.some.injEq, List.cons_append, List.nil_append, List.length_cons, List.length_nil, List.getD_cons_zero, List.getD_cons_succ, gc]
                exact fin0 _ _ hT hM (by omega) (by omega)
            have hK : kindO [c] l r' = none := by
              unfold kindO
              rw [if_neg]
              rintro (⟨h, h2⟩ | ⟨h, h2⟩ | ⟨h, h2⟩) <;> simp only [List.cons.injEq, and_true] at h <;> contradiction
            rw [hK] at hT
            have n5 : c.toNat ≠ 104 := fun e => k1 (UInt8.toNat_inj.1 e)
            have n6 : c.toNat ≠ 109 := fun e => k2 (UInt8.toNat_inj.1 e)
            have n7 : c.toNat ≠ 115 := fun e => k (UInt8.toNat_inj.1 e)
            simp (config := { maxSteps := 1000000 }) (disch := first | omega | (simp only [sizeAlloc, sizeDrew, sizeSet, sizePut] <;> omega) | fail) only [GS1, GS2, GS3, GS4, GS5, GS6, GS7, GS8, GS9, GS10, GS11, TT_eq, TTl, Nat.reduceAdd, Nat.reduceMul, Nat.reduceSub, Nat.reduceDiv, Nat.reduceMod, Nat.reducePow, Nat.reduceEqDiff, ↓reduceIte, reduceCtorEq, true_and, and_true, and_self, false_and, and_false, Int.reduceToNat, Int.reduceAdd, Int.reduceSub, Int.reduceMul, cond_true, cond_false, List.toList_toArray, Option.map_some, Option.map_none, Option.some.injEq, List.cons_append, List.nil_append, List.length_cons, List.length_nil, List.getD_cons_zero, List.getD_cons_succ, gc]
            exact fin0 _ _ hT hM (by omega) (by omega)
          · rw [hp] at hT
            simp (config := { maxSteps := 1000000 }) (disch := first | omega | (simp only [sizeAlloc, sizeDrew, sizeSet, sizePut] <;> omega) | fail) only [GS1, GS2, GS3, GS4, GS5, GS6, GS7, GS8, GS9, GS10, GS11, TT_eq, TTl, Nat.reduceAdd, Nat.reduceMul, Nat.reduceSub, Nat.reduceDiv, Nat.reduceMod, Nat.reducePow, Nat.reduceEqDiff, ↓reduceIte, reduceCtorEq, true_and, and_true, and_self, false_and, and_false, Int.reduceToNat, Int.reduceAdd, Int.reduceSub, Int.reduceMul, cond_true, cond_false, List.toList_toArray, Option.map_some, Option.map_none, Option.some.injEq, List.cons_append, List.nil_append, List.length_cons, List.length_nil, List.getD_cons_zero, List.getD_cons_succ]
            exact fin0 _ _ hT hM (by omega) (by omega)
        · have nb : b.toNat ≠ 40 := fun e => hb (UInt8.toNat_inj.1 e)
          rw [if_neg (pre1_f (decide_eq_false hb))] at hT
          simp (config := { maxSteps := 1000000 }) (disch := first | omega | (simp only [sizeAlloc, sizeDrew, sizeSet, sizePut] <;> omega) | fail) only [GS1, GS2, GS3, GS4, GS5, GS6, GS7, GS8, GS9, GS10, GS11, TT_eq, TTl, Nat.reduceAdd, Nat.reduceMul, Nat.reduceSub, Nat.reduceDiv, Nat.reduceMod, Nat.reducePow, Nat.reduceEqDiff, ↓reduceIte, reduceCtorEq, true_and, and_true, and_self, false_and, and_false, Int.reduceToNat, Int.reduceAdd, Int.reduceSub, Int.reduceMul, cond_true, cond_false, List.toList_toArray, Option.map_some, Option.map_none, Option.some.injEq, List.cons_append, List.nil_append, List.length_cons, List.length_nil, List.getD_cons_zero, List.getD_cons_succ, d0, gc, gb, hdr2]
          exact fin0 _ _ hT (Mod.refl _ _) (by omega) (by omega)
theorem rParse_cps (s : List UInt8) (hs : s.length ≤ 100000) (w : World) (R : Ending → World → Prop) (hR : ∀ w', Mod [] w w' → R (.returned (stV (parseS s))) w') :
    Calls Try.prog 10 #[.string ⟨s.toArray⟩] w R := by
  unfold parseS at hR
  refine calls_go 4000 okT Try.func10 rfl (rs := [.tmp 2, .tmp 3]) rfl Try.ntmps10 (args := [.string ⟨s.toArray⟩]) ?_
  simp (config := { maxSteps := 1000000 }) (disch := first | omega | (simp only [sizeAlloc, sizeDrew, sizeSet, sizePut] <;> omega) | fail) only [GS1, GS2, GS3, GS4, GS5, GS6, GS7, GS8, GS9, GS10, GS11, TT_eq, TTl, Nat.reduceAdd, Nat.reduceMul, Nat.reduceSub, Nat.reduceDiv, Nat.reduceMod, Nat.reducePow, Nat.reduceEqDiff, ↓reduceIte, reduceCtorEq, true_and, and_true, and_self, false_and, and_false, Int.reduceToNat, Int.reduceAdd, Int.reduceSub, Int.reduceMul, cond_true, cond_false, List.toList_toArray, Option.map_some, Option.map_none, Option.some.injEq, List.cons_append, List.nil_append, List.length_cons, List.length_nil, List.getD_cons_zero, List.getD_cons_succ]
  refine ⟨fok34, rParse_all 16 1 s _ _ (by omega) hs (fun t r' w1 ht hM => .inl ⟨_, rfl, hold_ops okT (rs := [.tmp 2, .tmp 3]) rfl ?_⟩) (fun ht k w1 hk hM => .inl ⟨_, rfl, hold_ops okT (rs := [.tmp 2, .tmp 3]) rfl ?_⟩)⟩
  · rw [ht] at hR
    simp only at hR
    have td := term_drop ht
    have d0 : decide (t = []) = false := decide_eq_false td.2.2
    have hl := td.2.1
    unfold siV
    by_cases h : r' = []
    · rw [if_pos h] at hR
      have hz : r'.length = 0 := by rw [h]; rfl
      simp (config := { maxSteps := 1000000 }) (disch := first | omega | (simp only [sizeAlloc, sizeDrew, sizeSet, sizePut] <;> omega) | fail) only [GS1, GS2, GS3, GS4, GS5, GS6, GS7, GS8, GS9, GS10, GS11, TT_eq, TTl, Nat.reduceAdd, Nat.reduceMul, Nat.reduceSub, Nat.reduceDiv, Nat.reduceMod, Nat.reducePow, Nat.reduceEqDiff, ↓reduceIte, reduceCtorEq, true_and, and_true, and_self, false_and, and_false, Int.reduceToNat, Int.reduceAdd, Int.reduceSub, Int.reduceMul, cond_true, cond_false, List.toList_toArray, Option.map_some, Option.map_none, Option.some.injEq, List.cons_append, List.nil_append, List.length_cons, List.length_nil, List.getD_cons_zero, List.getD_cons_succ, d0]
      exact hR _ hM
    · rw [if_neg h] at hR
      have hz : r'.length ≠ 0 := fun e => h (List.eq_nil_of_length_eq_zero e)
      simp (config := { maxSteps := 1000000 }) (disch := first | omega | (simp only [sizeAlloc, sizeDrew, sizeSet, sizePut] <;> omega) | fail) only [GS1, GS2, GS3, GS4, GS5, GS6, GS7, GS8, GS9, GS10, GS11, TT_eq, TTl, Nat.reduceAdd, Nat.reduceMul, Nat.reduceSub, Nat.reduceDiv, Nat.reduceMod, Nat.reducePow, Nat.reduceEqDiff, ↓reduceIte, reduceCtorEq, true_and, and_true, and_self, false_and, and_false, Int.reduceToNat, Int.reduceAdd, Int.reduceSub, Int.reduceMul, cond_true, cond_false, List.toList_toArray, Option.map_some, Option.map_none, Option.some.injEq, List.cons_append, List.nil_append, List.length_cons, List.length_nil, List.getD_cons_zero, List.getD_cons_succ, d0]
      exact hR _ hM
  · rw [ht] at hR
    unfold siV
    simp (config := { maxSteps := 1000000 }) (disch := first | omega | (simp only [sizeAlloc, sizeDrew, sizeSet, sizePut] <;> omega) | fail) only [GS1, GS2, GS3, GS4, GS5, GS6, GS7, GS8, GS9, GS10, GS11, TT_eq, TTl, Nat.reduceAdd, Nat.reduceMul, Nat.reduceSub, Nat.reduceDiv, Nat.reduceMod, Nat.reducePow, Nat.reduceEqDiff, ↓reduceIte, reduceCtorEq, true_and, and_true, and_self, false_and, and_false, Int.reduceToNat, Int.reduceAdd, Int.reduceSub, Int.reduceMul, cond_true, cond_false, List.toList_toArray, Option.map_some, Option.map_none, Option.some.injEq, List.cons_append, List.nil_append, List.length_cons, List.length_nil, List.getD_cons_zero, List.getD_cons_succ, eq_self]
    exact hR _ hM
set_option maxRecDepth 20000 in
set_option maxHeartbeats 4000000 in
theorem reads_cps (s : List UInt8) (w : World) (R : Ending → World → Prop) (hs : s.length ≤ maxLen) (hR : ∀ w', Mod [] w w' → R (.returned (.bool true)) w') :
    Calls Try.prog 3 #[.string ⟨s.toArray⟩] w R := by
  refine calls_go 4000 okT Try.func3 rfl (rs := [.tmp 2]) rfl Try.ntmps3 (args := [.string ⟨s.toArray⟩]) ?_
  simp (config := { maxSteps := 1000000 }) (disch := first | omega | (simp only [sizeAlloc, sizeDrew, sizeSet, sizePut] <;> omega) | fail) only [GS1, GS2, GS3, GS4, GS5, GS6, GS7, GS8, GS9, GS10, GS11, TT_eq, TTl, Nat.reduceAdd, Nat.reduceMul, Nat.reduceSub, Nat.reduceDiv, Nat.reduceMod, Nat.reducePow, Nat.reduceEqDiff, ↓reduceIte, reduceCtorEq, true_and, and_true, and_self, false_and, and_false, Int.reduceToNat, Int.reduceAdd, Int.reduceSub, Int.reduceMul, cond_true, cond_false, List.toList_toArray, Option.map_some, Option.map_none, Option.some.injEq, List.cons_append, List.nil_append, List.length_cons, List.length_nil, List.getD_cons_zero, List.getD_cons_succ]
  refine ⟨fok7, long_cps s hs _ _ (.inl ⟨_, rfl, hold_ops okT (rs := [.tmp 2]) rfl ?_⟩)⟩
  by_cases hls : 40000 < s.length
  · rw [decide_eq_true hls]
    simp (config := { maxSteps := 1000000 }) (disch := first | omega | (simp only [sizeAlloc, sizeDrew, sizeSet, sizePut] <;> omega) | fail) only [GS1, GS2, GS3, GS4, GS5, GS6, GS7, GS8, GS9, GS10, GS11, TT_eq, TTl, Nat.reduceAdd, Nat.reduceMul, Nat.reduceSub, Nat.reduceDiv, Nat.reduceMod, Nat.reducePow, Nat.reduceEqDiff, ↓reduceIte, reduceCtorEq, true_and, and_true, and_self, false_and, and_false, Int.reduceToNat, Int.reduceAdd, Int.reduceSub, Int.reduceMul, cond_true, cond_false, List.toList_toArray, Option.map_some, Option.map_none, Option.some.injEq, List.cons_append, List.nil_append, List.length_cons, List.length_nil, List.getD_cons_zero, List.getD_cons_succ]
    refine ⟨fok8, alive_cps _ _ fun wz hMz => .inl ⟨_, rfl, hold_ops okT (rs := [.tmp 2]) rfl ?_⟩⟩
    simp (config := { maxSteps := 1000000 }) (disch := first | omega | (simp only [sizeAlloc, sizeDrew, sizeSet, sizePut] <;> omega) | fail) only [GS1, GS2, GS3, GS4, GS5, GS6, GS7, GS8, GS9, GS10, GS11, TT_eq, TTl, Nat.reduceAdd, Nat.reduceMul, Nat.reduceSub, Nat.reduceDiv, Nat.reduceMod, Nat.reducePow, Nat.reduceEqDiff, ↓reduceIte, reduceCtorEq, true_and, and_true, and_self, false_and, and_false, Int.reduceToNat, Int.reduceAdd, Int.reduceSub, Int.reduceMul, cond_true, cond_false, List.toList_toArray, Option.map_some, Option.map_none, Option.some.injEq, List.cons_append, List.nil_append, List.length_cons, List.length_nil, List.getD_cons_zero, List.getD_cons_succ]
    exact hR _ hMz
  rw [decide_eq_false hls]
  simp (config := { maxSteps := 1000000 }) (disch := first | omega | (simp only [sizeAlloc, sizeDrew, sizeSet, sizePut] <;> omega) | fail) only [GS1, GS2, GS3, GS4, GS5, GS6, GS7, GS8, GS9, GS10, GS11, TT_eq, TTl, Nat.reduceAdd, Nat.reduceMul, Nat.reduceSub, Nat.reduceDiv, Nat.reduceMod, Nat.reducePow, Nat.reduceEqDiff, ↓reduceIte, reduceCtorEq, true_and, and_true, and_self, false_and, and_false, Int.reduceToNat, Int.reduceAdd, Int.reduceSub, Int.reduceMul, cond_true, cond_false, List.toList_toArray, Option.map_some, Option.map_none, Option.some.injEq, List.cons_append, List.nil_append, List.length_cons, List.length_nil, List.getD_cons_zero, List.getD_cons_succ]
  refine ⟨fok9, sParse_cps s (by omega) _ _ fun w1 hM1 => .inl ⟨_, rfl, hold_ops okT (rs := [.tmp 2]) rfl ?_⟩⟩
  generalize hP : parseS s = P at *
  obtain ⟨a, e⟩ := P
  unfold stV
  simp (config := { maxSteps := 1000000 }) (disch := first | omega | (simp only [sizeAlloc, sizeDrew, sizeSet, sizePut] <;> omega) | fail) only [GS1, GS2, GS3, GS4, GS5, GS6, GS7, GS8, GS9, GS10, GS11, TT_eq, TTl, Nat.reduceAdd, Nat.reduceMul, Nat.reduceSub, Nat.reduceDiv, Nat.reduceMod, Nat.reducePow, Nat.reduceEqDiff, ↓reduceIte, reduceCtorEq, true_and, and_true, and_self, false_and, and_false, Int.reduceToNat, Int.reduceAdd, Int.reduceSub, Int.reduceMul, cond_true, cond_false, List.toList_toArray, Option.map_some, Option.map_none, Option.some.injEq, List.cons_append, List.nil_append, List.length_cons, List.length_nil, List.getD_cons_zero, List.getD_cons_succ]
  refine ⟨fok10, rParse_cps s (by omega) _ _ fun w2 hM2 => .inl ⟨_, rfl, hold_ops okT (rs := [.tmp 2]) rfl ?_⟩⟩
  rw [hP]
  unfold stV
  simp (config := { maxSteps := 1000000 }) (disch := first | omega | (simp only [sizeAlloc, sizeDrew, sizeSet, sizePut] <;> omega) | fail) only [GS1, GS2, GS3, GS4, GS5, GS6, GS7, GS8, GS9, GS10, GS11, TT_eq, TTl, Nat.reduceAdd, Nat.reduceMul, Nat.reduceSub, Nat.reduceDiv, Nat.reduceMod, Nat.reducePow, Nat.reduceEqDiff, ↓reduceIte, reduceCtorEq, true_and, and_true, and_self, false_and, and_false, Int.reduceToNat, Int.reduceAdd, Int.reduceSub, Int.reduceMul, cond_true, cond_false, List.toList_toArray, Option.map_some, Option.map_none, Option.some.injEq, List.cons_append, List.nil_append, List.length_cons, List.length_nil, List.getD_cons_zero, List.getD_cons_succ, eq_self]
  refine ⟨fok8, alive_cps _ _ fun wz hMz => .inl ⟨_, rfl, hold_ops okT (rs := [.tmp 2]) rfl ?_⟩⟩
  simp (config := { maxSteps := 1000000 }) (disch := first | omega | (simp only [sizeAlloc, sizeDrew, sizeSet, sizePut] <;> omega) | fail) only [GS1, GS2, GS3, GS4, GS5, GS6, GS7, GS8, GS9, GS10, GS11, TT_eq, TTl, Nat.reduceAdd, Nat.reduceMul, Nat.reduceSub, Nat.reduceDiv, Nat.reduceMod, Nat.reducePow, Nat.reduceEqDiff, ↓reduceIte, reduceCtorEq, true_and, and_true, and_self, false_and, and_false, Int.reduceToNat, Int.reduceAdd, Int.reduceSub, Int.reduceMul, cond_true, cond_false, List.toList_toArray, Option.map_some, Option.map_none, Option.some.injEq, List.cons_append, List.nil_append, List.length_cons, List.length_nil, List.getD_cons_zero, List.getD_cons_succ]
  exact hR _ ((hM1.trans hM2 (by simp)).trans hMz (by simp))
end Go.Proofs.Ytpcmebcfgmoipaa
