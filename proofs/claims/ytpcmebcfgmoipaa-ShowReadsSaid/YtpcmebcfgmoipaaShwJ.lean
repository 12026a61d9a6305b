/-
  The reference's reader: digits, a quoted text (walks).
-/
import Derived.Test.YtpcmebcfgmoipaaShwI
set_option linter.unusedSimpArgs false
set_option linter.unusedVariables false
namespace Go.Proofs.Ytpcmebcfgmoipaa
open Go Go.Wk Go.RowKit
attribute [local irreducible] go Hold
open Go.Lib
theorem hexP_snoc : ∀ (k : Nat) (l : List UInt8) (h : 2 * k + 1 < l.length), hexP (l.take (2 * (k + 1))) = hexP (l.take (2 * k)) ++ [UInt8.ofNat (hexv l[2 * k] * 16 + hexv l[2 * k + 1])]
  | 0, a :: b :: r, h => rfl
  | 0, [a], h => by simp at h
  | 0, [], h => by simp at h
  | k + 1, a :: b :: r, h => by
    have h' : 2 * k + 1 < r.length := by simp only [List.length_cons] at h; omega
    have ih := hexP_snoc k r h'
    have e1 : (a :: b :: r).take (2 * (k + 1 + 1)) = a :: b :: r.take (2 * (k + 1)) := by rw [show 2 * (k + 1 + 1) = 2 * (k + 1) + 1 + 1 by omega]; rfl
    have e2 : (a :: b :: r).take (2 * (k + 1)) = a :: b :: r.take (2 * k) := by rw [show 2 * (k + 1) = 2 * k + 1 + 1 by omega]; rfl
    have g1 : (a :: b :: r)[2 * (k + 1)]'(by omega) = r[2 * k]'(by omega) := by
      have : 2 * (k + 1) = 2 * k + 1 + 1 := by omega
      simp only [this, List.getElem_cons_succ]
    have g2 : (a :: b :: r)[2 * (k + 1) + 1]'(by omega) = r[2 * k + 1]'(by omega) := by
      have : 2 * (k + 1) + 1 = 2 * k + 1 + 1 + 1 := by omega
      simp only [this, List.getElem_cons_succ]
    rw [e1, e2, hexP, hexP, ih, g1, g2]
    rfl
  | k + 1, [a], h => by simp at h
  | k + 1, [], h => by simp at h
def bytS (s : List UInt8) : List UInt8 × Nat := if (hexS s).length % 2 ≠ 0 ∨ 2048 < (hexS s).length then ([], 0) else if plainS (hexP (hexS s)) = true then ([], 0) else ((dataS (hexP (hexS s))).1, (hexS s).length)
def siV (x : List UInt8 × Nat) : Value := .tuple #[.string ⟨x.1.toArray⟩, .int .i64 x.2]
set_option maxRecDepth 20000 in
set_option maxHeartbeats 4000000 in
theorem rBytes7_cps (s : List UInt8) (hs : s.length ≤ 100000) (w : World) (R : Ending → World → Prop) (hR : ∀ w', Mod [] w w' → R (.returned (siV (bytS s))) w') :
    Calls Try.prog 65 #[.string ⟨s.toArray⟩] w R := by
  have hs' : s.length ≤ maxLen := by unfold maxLen; omega
  have e1 : (fun c => HX.contains c) = fun c : UInt8 => hxB c.toNat := funext hx_con
  have hle : (hexS s).length ≤ s.length := List.IsPrefix.length_le (List.takeWhile_prefix _)
  have htk : s.take (hexS s).length = hexS s := take_tw _ _
  have hall : ∀ c ∈ hexS s, hxB c.toNat = true := fun c hc => all_tw _ s c hc
  have hget : ∀ i (h : i < (hexS s).length), s.getD i 0 = (hexS s)[i] := fun i h => by
    rw [List.getD_eq_getElem?_getD]
    have : (s.take (hexS s).length)[i]? = s[i]? := by rw [List.getElem?_take, if_pos h]
    rw [← this, htk, List.getElem?_eq_getElem h]; rfl
  unfold bytS at hR
  refine calls_go 4000 okT Try.func65 rfl (rs := [.tmp 2, .tmp 3]) rfl Try.ntmps65 (args := [.string ⟨s.toArray⟩]) ?_
  simp (config := { maxSteps := 1000000 }) (disch := first | omega | (simp only [sizeAlloc, sizeDrew, sizeSet, sizePut] <;> omega) | fail) only [GS1, GS2, GS3, GS4, GS5, GS6, GS7, GS8, GS9, GS10, GS11, TT_eq, TTl, Nat.reduceAdd, Nat.reduceMul, Nat.reduceSub, Nat.reduceDiv, Nat.reduceMod, Nat.reducePow, Nat.reduceEqDiff, ↓reduceIte, reduceCtorEq, true_and, and_true, and_self, false_and, and_false, Int.reduceToNat, Int.reduceAdd, Int.reduceSub, Int.reduceMul, cond_true, cond_false, List.toList_toArray, Option.map_some, Option.map_none, Option.some.injEq, List.cons_append, List.nil_append, List.length_cons, List.length_nil, List.getD_cons_zero, List.getD_cons_succ]
  refine ⟨fok93, rFront_cps s HX hs' (by decide) _ _ fun w0 hM0 => .inl ⟨_, rfl, hold_ops okT (rs := [.tmp 2, .tmp 3]) rfl ?_⟩⟩
  rw [e1]
  rw [show (s.takeWhile fun c => hxB c.toNat) = hexS s from rfl]
  generalize hexS s = l at *
  have t1 : ((l.length : Nat) : Int).tmod 2 = ((l.length % 2 : Nat) : Int) := by rw [Int.tmod_eq_emod_of_nonneg (by omega)]; omega
  by_cases h1 : l.length % 2 ≠ 0
  · rw [if_pos (.inl h1)] at hR
    simp (config := { maxSteps := 1000000 }) (disch := first | omega | (simp only [sizeAlloc, sizeDrew, sizeSet, sizePut] <;> omega) | fail) only [GS1, GS2, GS3, GS4, GS5, GS6, GS7, GS8, GS9, GS10, GS11, TT_eq, TTl, Nat.reduceAdd, Nat.reduceMul, Nat.reduceSub, Nat.reduceDiv, Nat.reduceMod, Nat.reducePow, Nat.reduceEqDiff, ↓reduceIte, reduceCtorEq, true_and, and_true, and_self, false_and, and_false, Int.reduceToNat, Int.reduceAdd, Int.reduceSub, Int.reduceMul, cond_true, cond_false, List.toList_toArray, Option.map_some, Option.map_none, Option.some.injEq, List.cons_append, List.nil_append, List.length_cons, List.length_nil, List.getD_cons_zero, List.getD_cons_succ, t1]
    exact hR _ hM0
  by_cases h2 : 2048 < l.length
  · rw [if_pos (.inr h2)] at hR
    simp (config := { maxSteps := 1000000 }) (disch := first | omega | (simp only [sizeAlloc, sizeDrew, sizeSet, sizePut] <;> omega) | fail) only [GS1, GS2, GS3, GS4, GS5, GS6, GS7, GS8, GS9, GS10, GS11, TT_eq, TTl, Nat.reduceAdd, Nat.reduceMul, Nat.reduceSub, Nat.reduceDiv, Nat.reduceMod, Nat.reducePow, Nat.reduceEqDiff, ↓reduceIte, reduceCtorEq, true_and, and_true, and_self, false_and, and_false, Int.reduceToNat, Int.reduceAdd, Int.reduceSub, Int.reduceMul, cond_true, cond_false, List.toList_toArray, Option.map_some, Option.map_none, Option.some.injEq, List.cons_append, List.nil_append, List.length_cons, List.length_nil, List.getD_cons_zero, List.getD_cons_succ, t1]
    exact hR _ hM0
  rw [if_neg (fun h => h.elim h1 h2)] at hR
  simp (config := { maxSteps := 1000000 }) (disch := first | omega | (simp only [sizeAlloc, sizeDrew, sizeSet, sizePut] <;> omega) | fail) only [GS1, GS2, GS3, GS4, GS5, GS6, GS7, GS8, GS9, GS10, GS11, TT_eq, TTl, Nat.reduceAdd, Nat.reduceMul, Nat.reduceSub, Nat.reduceDiv, Nat.reduceMod, Nat.reducePow, Nat.reduceEqDiff, ↓reduceIte, reduceCtorEq, true_and, and_true, and_self, false_and, and_false, Int.reduceToNat, Int.reduceAdd, Int.reduceSub, Int.reduceMul, cond_true, cond_false, List.toList_toArray, Option.map_some, Option.map_none, Option.some.injEq, List.cons_append, List.nil_append, List.length_cons, List.length_nil, List.getD_cons_zero, List.getD_cons_succ, t1]
  obtain ⟨m, hm⟩ : ∃ m, l.length = 2 * m := ⟨l.length / 2, by omega⟩
  refine hold_loop okT (rs := [.tmp 2, .tmp 3]) rfl [5, 6] [18, 19, 20, 21, 22, 23, 24, 25, 26, 27, 28, 29, 30, 31, 32, 33, 34, 35, 36, 37, 38] (fun vs w' => ∃ k : Nat, vs = [.string ⟨(hexP (l.take (2 * k))).toArray⟩, .int .i64 (2 * k : Nat)] ∧ k ≤ m ∧ Mod [] w w') (fun vs _ => match vs with | [_, .int _ i] => l.length - i.toNat | _ => 0) (by kernel_rfl) ⟨0, rfl, by omega, hM0⟩ ?_
  clear hM0
  rintro vs w1 J ⟨k, rfl, hk, hM⟩
  by_cases hlt : k < m
  · have hlk1 : 2 * k < l.length := by omega
    have hlk2 : 2 * k + 1 < l.length := by omega
    have y1 := hget (2 * k) hlk1
    have y2 := hget (2 * k + 1) hlk2
    have y3 : (((2 * k : Nat) : Int) + 1).toNat = 2 * k + 1 := by omega
    have hsn := hexP_snoc k l hlk2
    have hx1 := hall _ (List.getElem_mem hlk1)
    have hx2 := hall _ (List.getElem_mem hlk2)
    have q1 := (hexv_ix _ hx1).2
    have q2 := (hexv_ix _ hx2).2
    have hTl := hexP_le (l.take (2 * k))
    rw [List.length_take] at hTl
    generalize l[2 * k] = a at *
    generalize l[2 * k + 1] = b at *
    simp (config := { maxSteps := 1000000 }) (disch := first | omega | (simp only [sizeAlloc, sizeDrew, sizeSet, sizePut] <;> omega) | fail) only [GS1, GS2, GS3, GS4, GS5, GS6, GS7, GS8, GS9, GS10, GS11, TT_eq, TTl, Nat.reduceAdd, Nat.reduceMul, Nat.reduceSub, Nat.reduceDiv, Nat.reduceMod, Nat.reducePow, Nat.reduceEqDiff, ↓reduceIte, reduceCtorEq, true_and, and_true, and_self, false_and, and_false, Int.reduceToNat, Int.reduceAdd, Int.reduceSub, Int.reduceMul, cond_true, cond_false, List.toList_toArray, Option.map_some, Option.map_none, Option.some.injEq, List.cons_append, List.nil_append, List.length_cons, List.length_nil, List.getD_cons_zero, List.getD_cons_succ]
    refine hold_draw okT (rs := [.tmp 2, .tmp 3]) rfl [0, 0, 0, 6, 14, 30, 0, 0, 128, 448, 990, 2046, 4094, 8190, 16383, 32767] [0, 1, 2, 3, 6, 7, 8, 9, 4, 5, 10, 11, 12, 13, 14, 15] (by kernel_rfl) (by kernel_rfl) ?_
    simp (config := { maxSteps := 1000000 }) (disch := first | omega | (simp only [sizeAlloc, sizeDrew, sizeSet, sizePut] <;> omega) | fail) only [GS1, GS2, GS3, GS4, GS5, GS6, GS7, GS8, GS9, GS10, GS11, TT_eq, TTl, Nat.reduceAdd, Nat.reduceMul, Nat.reduceSub, Nat.reduceDiv, Nat.reduceMod, Nat.reducePow, Nat.reduceEqDiff, ↓reduceIte, reduceCtorEq, true_and, and_true, and_self, false_and, and_false, Int.reduceToNat, Int.reduceAdd, Int.reduceSub, Int.reduceMul, cond_true, cond_false, List.toList_toArray, Option.map_some, Option.map_none, Option.some.injEq, List.cons_append, List.nil_append, List.length_cons, List.length_nil, List.getD_cons_zero, List.getD_cons_succ, y1]
    refine ⟨fok95, rValue_cps a hx1 _ _ (.inl ⟨_, rfl, hold_dops okT (rs := [.tmp 2, .tmp 3]) rfl ?_⟩)⟩
    simp (config := { maxSteps := 1000000 }) (disch := first | omega | (simp only [sizeAlloc, sizeDrew, sizeSet, sizePut] <;> omega) | fail) only [GS1, GS2, GS3, GS4, GS5, GS6, GS7, GS8, GS9, GS10, GS11, TT_eq, TTl, Nat.reduceAdd, Nat.reduceMul, Nat.reduceSub, Nat.reduceDiv, Nat.reduceMod, Nat.reducePow, Nat.reduceEqDiff, ↓reduceIte, reduceCtorEq, true_and, and_true, and_self, false_and, and_false, Int.reduceToNat, Int.reduceAdd, Int.reduceSub, Int.reduceMul, cond_true, cond_false, List.toList_toArray, Option.map_some, Option.map_none, Option.some.injEq, List.cons_append, List.nil_append, List.length_cons, List.length_nil, List.getD_cons_zero, List.getD_cons_succ, y2, y3]
    refine ⟨fok95, rValue_cps b hx2 _ _ (.inl ⟨_, rfl, hold_dops okT (rs := [.tmp 2, .tmp 3]) rfl ?_⟩)⟩
    have e6 : ((hexv a : Nat) : Int) * 16 + (hexv b : Nat) = ((hexv a * 16 + hexv b : Nat) : Int) := by omega
    simp (config := { maxSteps := 1000000 }) (disch := first | omega | (simp only [sizeAlloc, sizeDrew, sizeSet, sizePut] <;> omega) | fail) only [GS1, GS2, GS3, GS4, GS5, GS6, GS7, GS8, GS9, GS10, GS11, TT_eq, TTl, Nat.reduceAdd, Nat.reduceMul, Nat.reduceSub, Nat.reduceDiv, Nat.reduceMod, Nat.reducePow, Nat.reduceEqDiff, ↓reduceIte, reduceCtorEq, true_and, and_true, and_self, false_and, and_false, Int.reduceToNat, Int.reduceAdd, Int.reduceSub, Int.reduceMul, cond_true, cond_false, List.toList_toArray, Option.map_some, Option.map_none, Option.some.injEq, List.cons_append, List.nil_append, List.length_cons, List.length_nil, List.getD_cons_zero, List.getD_cons_succ, e6]
    refine ⟨⟨k + 1, ?_, by omega, (hM.drewN 1).alloc _⟩, by omega⟩
    rw [hsn, show ((2 * (k + 1) : Nat) : Int) = ((2 * k : Nat) : Int) + 2 by omega]
  · have e : k = m := by omega
    subst e
    rw [← hm, List.take_length]
    have hTl := hexP_len k l hm
    simp (config := { maxSteps := 1000000 }) (disch := first | omega | (simp only [sizeAlloc, sizeDrew, sizeSet, sizePut] <;> omega) | fail) only [GS1, GS2, GS3, GS4, GS5, GS6, GS7, GS8, GS9, GS10, GS11, TT_eq, TTl, Nat.reduceAdd, Nat.reduceMul, Nat.reduceSub, Nat.reduceDiv, Nat.reduceMod, Nat.reducePow, Nat.reduceEqDiff, ↓reduceIte, reduceCtorEq, true_and, and_true, and_self, false_and, and_false, Int.reduceToNat, Int.reduceAdd, Int.reduceSub, Int.reduceMul, cond_true, cond_false, List.toList_toArray, Option.map_some, Option.map_none, Option.some.injEq, List.cons_append, List.nil_append, List.length_cons, List.length_nil, List.getD_cons_zero, List.getD_cons_succ]
    refine ⟨fok21, rPlainS_cps (hexP l) (by unfold maxLen; omega) _ _ fun w2 hM2 => .inl ⟨_, rfl, hold_ops okT (rs := [.tmp 2, .tmp 3]) rfl ?_⟩⟩
    cases hp : plainS (hexP l)
    · rw [if_neg (by rw [hp]; simp)] at hR
      simp (config := { maxSteps := 1000000 }) (disch := first | omega | (simp only [sizeAlloc, sizeDrew, sizeSet, sizePut] <;> omega) | fail) only [GS1, GS2, GS3, GS4, GS5, GS6, GS7, GS8, GS9, GS10, GS11, TT_eq, TTl, Nat.reduceAdd, Nat.reduceMul, Nat.reduceSub, Nat.reduceDiv, Nat.reduceMod, Nat.reducePow, Nat.reduceEqDiff, ↓reduceIte, reduceCtorEq, true_and, and_true, and_self, false_and, and_false, Int.reduceToNat, Int.reduceAdd, Int.reduceSub, Int.reduceMul, cond_true, cond_false, List.toList_toArray, Option.map_some, Option.map_none, Option.some.injEq, List.cons_append, List.nil_append, List.length_cons, List.length_nil, List.getD_cons_zero, List.getD_cons_succ]
      refine ⟨fok96, rData_cps (hexP l) (by unfold maxLen; omega) _ _ fun w3 hM3 => .inl ⟨_, rfl, hold_ops okT (rs := [.tmp 2, .tmp 3]) rfl ?_⟩⟩
      have hM' := (hM.trans hM2 (by simp)).trans hM3 (by simp)
      generalize dataS (hexP l) = P at *
      obtain ⟨tt, ee⟩ := P
      unfold stV
      simp (config := { maxSteps := 1000000 }) (disch := first | omega | (simp only [sizeAlloc, sizeDrew, sizeSet, sizePut] <;> omega) | fail) only [GS1, GS2, GS3, GS4, GS5, GS6, GS7, GS8, GS9, GS10, GS11, TT_eq, TTl, Nat.reduceAdd, Nat.reduceMul, Nat.reduceSub, Nat.reduceDiv, Nat.reduceMod, Nat.reducePow, Nat.reduceEqDiff, ↓reduceIte, reduceCtorEq, true_and, and_true, and_self, false_and, and_false, Int.reduceToNat, Int.reduceAdd, Int.reduceSub, Int.reduceMul, cond_true, cond_false, List.toList_toArray, Option.map_some, Option.map_none, Option.some.injEq, List.cons_append, List.nil_append, List.length_cons, List.length_nil, List.getD_cons_zero, List.getD_cons_succ]
      exact hR _ hM'
    · rw [if_pos hp] at hR
      simp (config := { maxSteps := 1000000 }) (disch := first | omega | (simp only [sizeAlloc, sizeDrew, sizeSet, sizePut] <;> omega) | fail) only [GS1, GS2, GS3, GS4, GS5, GS6, GS7, GS8, GS9, GS10, GS11, TT_eq, TTl, Nat.reduceAdd, Nat.reduceMul, Nat.reduceSub, Nat.reduceDiv, Nat.reduceMod, Nat.reducePow, Nat.reduceEqDiff, ↓reduceIte, reduceCtorEq, true_and, and_true, and_self, false_and, and_false, Int.reduceToNat, Int.reduceAdd, Int.reduceSub, Int.reduceMul, cond_true, cond_false, List.toList_toArray, Option.map_some, Option.map_none, Option.some.injEq, List.cons_append, List.nil_append, List.length_cons, List.length_nil, List.getD_cons_zero, List.getD_cons_succ]
      exact hR _ (hM.trans hM2 (by simp))
def qtS (s : List UInt8) : Nat := (s.takeWhile fun c => decide (c ≠ 34)).length
def quoS (s : List UInt8) : List UInt8 × Nat := if qtS s = s.length ∨ 1024 < qtS s ∨ plainS (s.take (qtS s)) = false then ([], 0) else ((dataS (s.take (qtS s))).1, qtS s + 1)
set_option maxRecDepth 20000 in
set_option maxHeartbeats 4000000 in
theorem rQuoted7_cps (s : List UInt8) (hs : s.length ≤ 100000) (w : World) (R : Ending → World → Prop) (hR : ∀ w', Mod [] w w' → R (.returned (siV (quoS s))) w') :
    Calls Try.prog 66 #[.string ⟨s.toArray⟩] w R := by
  unfold quoS at hR
  have hql : qtS s ≤ s.length := List.IsPrefix.length_le (List.takeWhile_prefix _)
  refine calls_go 4000 okT Try.func66 rfl (rs := [.tmp 2, .tmp 3]) rfl Try.ntmps66 (args := [.string ⟨s.toArray⟩]) ?_
  simp (config := { maxSteps := 1000000 }) (disch := first | omega | (simp only [sizeAlloc, sizeDrew, sizeSet, sizePut] <;> omega) | fail) only [GS1, GS2, GS3, GS4, GS5, GS6, GS7, GS8, GS9, GS10, GS11, TT_eq, TTl, Nat.reduceAdd, Nat.reduceMul, Nat.reduceSub, Nat.reduceDiv, Nat.reduceMod, Nat.reducePow, Nat.reduceEqDiff, ↓reduceIte, reduceCtorEq, true_and, and_true, and_self, false_and, and_false, Int.reduceToNat, Int.reduceAdd, Int.reduceSub, Int.reduceMul, cond_true, cond_false, List.toList_toArray, Option.map_some, Option.map_none, Option.some.injEq, List.cons_append, List.nil_append, List.length_cons, List.length_nil, List.getD_cons_zero, List.getD_cons_succ]
  refine hold_loop okT (rs := [.tmp 2, .tmp 3]) rfl [4] [7, 8, 9, 10, 11, 12, 13, 14, 15, 16, 17, 18] (fun vs w' => w' = w ∧ ∃ n : Nat, vs = [.int .i64 n] ∧ n ≤ s.length ∧ qtS s = n + qtS (s.drop n)) (fun vs _ => match vs with | [.int _ i] => s.length - i.toNat | _ => 0) (by kernel_rfl) ⟨rfl, 0, rfl, by omega, by rw [List.drop_zero, Nat.zero_add]⟩ ?_
  rintro vs w1 J ⟨rfl, n, rfl, hn, hX⟩
  by_cases hlt : n < s.length
  · have y1 : s.getD n 0 = s[n] := by rw [List.getD_eq_getElem?_getD, List.getElem?_eq_getElem hlt]; rfl
    have hdr := List.drop_eq_getElem_cons hlt
    by_cases hq : s[n] = 34
    · have z : qtS (s.drop n) = 0 := by
        unfold qtS
        rw [hdr, List.takeWhile_cons_of_neg (by rw [hq]; simp)]; rfl
      rw [z, Nat.add_zero] at hX
      rw [hX] at hR
      have hq1 : decide ((s[n].toNat : Int) = 34) = true := by rw [hq]; rfl
      by_cases h2 : 1024 < n
      · rw [if_pos (.inr (.inl h2))] at hR
        simp (config := { maxSteps := 1000000 }) (disch := first | omega | (simp only [sizeAlloc, sizeDrew, sizeSet, sizePut] <;> omega) | fail) only [GS1, GS2, GS3, GS4, GS5, GS6, GS7, GS8, GS9, GS10, GS11, TT_eq, TTl, Nat.reduceAdd, Nat.reduceMul, Nat.reduceSub, Nat.reduceDiv, Nat.reduceMod, Nat.reducePow, Nat.reduceEqDiff, ↓reduceIte, reduceCtorEq, true_and, and_true, and_self, false_and, and_false, Int.reduceToNat, Int.reduceAdd, Int.reduceSub, Int.reduceMul, cond_true, cond_false, List.toList_toArray, Option.map_some, Option.map_none, Option.some.injEq, List.cons_append, List.nil_append, List.length_cons, List.length_nil, List.getD_cons_zero, List.getD_cons_succ, y1, hq1]
        exact hR _ (Mod.refl _ _)
      simp (config := { maxSteps := 1000000 }) (disch := first | omega | (simp only [sizeAlloc, sizeDrew, sizeSet, sizePut] <;> omega) | fail) only [GS1, GS2, GS3, GS4, GS5, GS6, GS7, GS8, GS9, GS10, GS11, TT_eq, TTl, Nat.reduceAdd, Nat.reduceMul, Nat.reduceSub, Nat.reduceDiv, Nat.reduceMod, Nat.reducePow, Nat.reduceEqDiff, ↓reduceIte, reduceCtorEq, true_and, and_true, and_self, false_and, and_false, Int.reduceToNat, Int.reduceAdd, Int.reduceSub, Int.reduceMul, cond_true, cond_false, List.toList_toArray, Option.map_some, Option.map_none, Option.some.injEq, List.cons_append, List.nil_append, List.length_cons, List.length_nil, List.getD_cons_zero, List.getD_cons_succ, y1, hq1]
      have htm : (s.take n).length ≤ maxLen := by rw [List.length_take]; unfold maxLen; omega
      refine ⟨fok21, rPlainS_cps (s.take n) htm _ _ fun w2 hM2 => .inl ⟨_, rfl, hold_ops okT (rs := [.tmp 2, .tmp 3]) rfl ?_⟩⟩
      cases hp : plainS (s.take n)
      · rw [if_pos (.inr (.inr hp))] at hR
        simp (config := { maxSteps := 1000000 }) (disch := first | omega | (simp only [sizeAlloc, sizeDrew, sizeSet, sizePut] <;> omega) | fail) only [GS1, GS2, GS3, GS4, GS5, GS6, GS7, GS8, GS9, GS10, GS11, TT_eq, TTl, Nat.reduceAdd, Nat.reduceMul, Nat.reduceSub, Nat.reduceDiv, Nat.reduceMod, Nat.reducePow, Nat.reduceEqDiff, ↓reduceIte, reduceCtorEq, true_and, and_true, and_self, false_and, and_false, Int.reduceToNat, Int.reduceAdd, Int.reduceSub, Int.reduceMul, cond_true, cond_false, List.toList_toArray, Option.map_some, Option.map_none, Option.some.injEq, List.cons_append, List.nil_append, List.length_cons, List.length_nil, List.getD_cons_zero, List.getD_cons_succ]
        exact hR _ hM2
      · rw [if_neg (fun x => x.elim (fun a => by omega) (fun b => b.elim h2 (fun c => by rw [hp] at c; simp at c)))] at hR
        simp (config := { maxSteps := 1000000 }) (disch := first | omega | (simp only [sizeAlloc, sizeDrew, sizeSet, sizePut] <;> omega) | fail) only [GS1, GS2, GS3, GS4, GS5, GS6, GS7, GS8, GS9, GS10, GS11, TT_eq, TTl, Nat.reduceAdd, Nat.reduceMul, Nat.reduceSub, Nat.reduceDiv, Nat.reduceMod, Nat.reducePow, Nat.reduceEqDiff, ↓reduceIte, reduceCtorEq, true_and, and_true, and_self, false_and, and_false, Int.reduceToNat, Int.reduceAdd, Int.reduceSub, Int.reduceMul, cond_true, cond_false, List.toList_toArray, Option.map_some, Option.map_none, Option.some.injEq, List.cons_append, List.nil_append, List.length_cons, List.length_nil, List.getD_cons_zero, List.getD_cons_succ]
        refine ⟨fok96, rData_cps (s.take n) htm _ _ fun w3 hM3 => .inl ⟨_, rfl, hold_ops okT (rs := [.tmp 2, .tmp 3]) rfl ?_⟩⟩
        have hM' := hM2.trans hM3 (by simp)
        generalize dataS (s.take n) = P at *
        obtain ⟨tt, ee⟩ := P
        unfold stV
        simp (config := { maxSteps := 1000000 }) (disch := first | omega | (simp only [sizeAlloc, sizeDrew, sizeSet, sizePut] <;> omega) | fail) only [GS1, GS2, GS3, GS4, GS5, GS6, GS7, GS8, GS9, GS10, GS11, TT_eq, TTl, Nat.reduceAdd, Nat.reduceMul, Nat.reduceSub, Nat.reduceDiv, Nat.reduceMod, Nat.reducePow, Nat.reduceEqDiff, ↓reduceIte, reduceCtorEq, true_and, and_true, and_self, false_and, and_false, Int.reduceToNat, Int.reduceAdd, Int.reduceSub, Int.reduceMul, cond_true, cond_false, List.toList_toArray, Option.map_some, Option.map_none, Option.some.injEq, List.cons_append, List.nil_append, List.length_cons, List.length_nil, List.getD_cons_zero, List.getD_cons_succ]
        exact hR _ hM'
    · have hne : decide ((s[n].toNat : Int) = 34) = false := decide_eq_false fun h => hq (UInt8.toNat_inj.1 (by show s[n].toNat = 34; omega))
      have z : qtS (s.drop n) = 1 + qtS (s.drop (n + 1)) := by
        conv => lhs; unfold qtS
        rw [hdr, List.takeWhile_cons_of_pos (by simpa using hq), List.length_cons, Nat.add_comm]; rfl
      simp (config := { maxSteps := 1000000 }) (disch := first | omega | (simp only [sizeAlloc, sizeDrew, sizeSet, sizePut] <;> omega) | fail) only [GS1, GS2, GS3, GS4, GS5, GS6, GS7, GS8, GS9, GS10, GS11, TT_eq, TTl, Nat.reduceAdd, Nat.reduceMul, Nat.reduceSub, Nat.reduceDiv, Nat.reduceMod, Nat.reducePow, Nat.reduceEqDiff, ↓reduceIte, reduceCtorEq, true_and, and_true, and_self, false_and, and_false, Int.reduceToNat, Int.reduceAdd, Int.reduceSub, Int.reduceMul, cond_true, cond_false, List.toList_toArray, Option.map_some, Option.map_none, Option.some.injEq, List.cons_append, List.nil_append, List.length_cons, List.length_nil, List.getD_cons_zero, List.getD_cons_succ, y1, hne]
      exact ⟨⟨n + 1, rfl, by omega, by omega⟩, by omega⟩
  · have e : n = s.length := by omega
    have z : qtS (s.drop n) = 0 := by rw [e, List.drop_length]; rfl
    rw [z, Nat.add_zero] at hX
    rw [hX, if_pos (.inl e)] at hR
    simp (config := { maxSteps := 1000000 }) (disch := first | omega | (simp only [sizeAlloc, sizeDrew, sizeSet, sizePut] <;> omega) | fail) only [GS1, GS2, GS3, GS4, GS5, GS6, GS7, GS8, GS9, GS10, GS11, TT_eq, TTl, Nat.reduceAdd, Nat.reduceMul, Nat.reduceSub, Nat.reduceDiv, Nat.reduceMod, Nat.reducePow, Nat.reduceEqDiff, ↓reduceIte, reduceCtorEq, true_and, and_true, and_self, false_and, and_false, Int.reduceToNat, Int.reduceAdd, Int.reduceSub, Int.reduceMul, cond_true, cond_false, List.toList_toArray, Option.map_some, Option.map_none, Option.some.injEq, List.cons_append, List.nil_append, List.length_cons, List.length_nil, List.getD_cons_zero, List.getD_cons_succ]
    exact hR _ (Mod.refl _ _)
end Go.Proofs.Ytpcmebcfgmoipaa
