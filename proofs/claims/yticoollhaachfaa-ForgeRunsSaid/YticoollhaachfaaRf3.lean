/-
  The reference's steps, one behind the other, and ForgeRuns (walks).
-/
import Derived.Test.YticoollhaachfaaRf2
import Derived.Test.YticoollhaachfaaRf1
import Derived.Test.YticoollhaachfaaFmr1
import Derived.Test.YticoollhaachfaaFmr2
set_option linter.unusedSimpArgs false
set_option linter.unusedVariables false
namespace Go.Proofs.Yticoollhaachfaa
open Go Go.Wk Go.RowKit
attribute [local irreducible] go Hold
open Go.Lib
set_option maxRecDepth 20000 in
set_option maxHeartbeats 8000000 in
theorem rTerms11_cps (sv ta : Value) (seen : List (List UInt8)) (xs : List Stp) (w : World) (R : Ending → World → Prop) (rs : Rd w 1 sv seen.length (seen.map strV)) (hs : ∀ s ∈ seen, s.length ≤ maxLen) (ls : seen.length ≤ 9223372036854775807) (hx : RdS w ta xs) (hxl : xs.length ≤ 1000)
    (hR : ∀ lv w', w'.ownsRow w.heap.size 9 1 lv (allT seen xs).1.length ((allT seen xs).1.map strV) → Mod [] w w' → R (.returned (.tuple #[lv, .int .i64 (allT seen xs).2.1, .int .i64 (allT seen xs).2.2])) w') : Calls Try.prog 13 #[sv, ta] w R := by
  obtain ⟨ta, tc, rfl⟩ := hx.rd.slice
  obtain ⟨sa, sc, rfl⟩ := rs.slice
  refine calls_go 4000 okT Try.func13 rfl (rs := [.tmp 4, .tmp 5, .tmp 6]) rfl Try.ntmps13 (args := [.slice sa seen.length sc, .slice ta xs.length tc]) ?_
  unfold allT at hR
  by_cases h0 : xs.length = 0
  · rw [if_pos h0] at hR
    simp (config := { maxSteps := 1000000 }) (disch := first | omega | (simp only [sizeAlloc, sizeDrew, sizeSet, sizePut] <;> omega) | fail) only [GS1, GS2, GS3, GS4, GS5, GS6, GS7, GS8, GS9, GS10, GS11, TT_eq, TTl, Nat.reduceAdd, Nat.reduceMul, Nat.reduceSub, Nat.reduceDiv, Nat.reduceMod, Nat.reducePow, Nat.reduceEqDiff, ↓reduceIte, reduceCtorEq, true_and, and_true, and_self, false_and, and_false, Int.reduceToNat, Int.reduceAdd, Int.reduceSub, Int.reduceMul, cond_true, cond_false, List.toList_toArray, Option.map_some, Option.map_none, Option.some.injEq, List.cons_append, List.nil_append, List.length_cons, List.length_nil, List.getD_cons_zero, List.getD_cons_succ]
    exact hR _ _ (World.ownsRow_nil _ _ _ _) (Mod.refl _ _)
  rw [if_neg h0] at hR
  simp (config := { maxSteps := 1000000 }) (disch := first | omega | (simp only [sizeAlloc, sizeDrew, sizeSet, sizePut] <;> omega) | fail) only [GS1, GS2, GS3, GS4, GS5, GS6, GS7, GS8, GS9, GS10, GS11, TT_eq, TTl, Nat.reduceAdd, Nat.reduceMul, Nat.reduceSub, Nat.reduceDiv, Nat.reduceMod, Nat.reducePow, Nat.reduceEqDiff, ↓reduceIte, reduceCtorEq, true_and, and_true, and_self, false_and, and_false, Int.reduceToNat, Int.reduceAdd, Int.reduceSub, Int.reduceMul, cond_true, cond_false, List.toList_toArray, Option.map_some, Option.map_none, Option.some.injEq, List.cons_append, List.nil_append, List.length_cons, List.length_nil, List.getD_cons_zero, List.getD_cons_succ]
  refine hold_loop okT (rs := [.tmp 4, .tmp 5, .tmp 6]) rfl [7, 8] [4, 5, 6, 9, 10, 17, 18, 19, 20, 21, 22, 23, 24, 25, 26, 27, 28, 29, 30, 31, 32, 33, 34, 35, 36, 37, 38, 39, 40, 41, 42, 43, 44, 45, 46, 47, 48] (fun vs w' => ∃ (k : Nat) (l : List (List UInt8)) (lv : Value), k ≤ xs.length ∧ l.length = k ∧ vs = [lv, .int .i64 k] ∧ w'.ownsRow w.heap.size 9 1 lv l.length (l.map strV) ∧ (∀ s ∈ l, checkS s = 0) ∧ runS seen xs [] = runS seen (xs.drop k) l ∧ Mod [] w w') (fun vs _ => match vs with | [_, .int _ i] => xs.length - i.toNat | _ => 0) (by kernel_rfl) ⟨0, [], _, by omega, rfl, rfl, World.ownsRow_nil _ _ _ _, by simp, rfl, Mod.refl _ _⟩ ?_
  rintro vs w2 J ⟨k, l, lv, hk, hlk, rfl, hown, hl, hrun, hM⟩
  rw [hrun] at hR
  have hcl := ownsRow_one hown
  have hrl := Rd.own hown
  have hxw := hx.mod hM
  have hrs := rs.mod hM (by simp)
  by_cases hlt : k < xs.length
  · obtain ⟨b1, o1, c1, e1, _, g1⟩ := hxw.rd.at (by omega) (by omega)
    have hfl := fun j hj => flat_get stpC 7 stpC_len xs k hlt j hj
    have hin := hxw.el _ (List.getElem_mem hlt)
    have hdr : xs.drop k = xs[k] :: xs.drop (k + 1) := List.drop_eq_getElem_cons hlt
    rw [hdr] at hR hrun
    simp only [runS] at hR hrun
    generalize xs[k] = x at hfl hin hR hrun
    rw [Value.slice.injEq] at e1
    obtain ⟨rfl, -, -⟩ := e1
    have d0 : w2.cell? ⟨b1, o1 + k * 7, none⟩ = some (.int .u8 x.d) := by have := g1 (k * 7 + 0) _ (hfl 0 (by omega)); simpa using this
    have d1 : w2.cell? ⟨b1, o1 + k * 7 + 1, none⟩ = some (.int .i64 x.a) := by have := g1 (k * 7 + 1) _ (hfl 1 (by omega)); rw [← Nat.add_assoc] at this; exact this
    have d2 : w2.cell? ⟨b1, o1 + k * 7 + 2, none⟩ = some (.int .i64 x.b) := by have := g1 (k * 7 + 2) _ (hfl 2 (by omega)); rw [← Nat.add_assoc] at this; exact this
    have d3 : w2.cell? ⟨b1, o1 + k * 7 + 3, none⟩ = some (.int .i64 x.c) := by have := g1 (k * 7 + 3) _ (hfl 3 (by omega)); rw [← Nat.add_assoc] at this; exact this
    have d4 : w2.cell? ⟨b1, o1 + k * 7 + 4, none⟩ = some (.int .i64 x.n) := by have := g1 (k * 7 + 4) _ (hfl 4 (by omega)); rw [← Nat.add_assoc] at this; exact this
    have d5 : w2.cell? ⟨b1, o1 + k * 7 + 5, none⟩ = some (.string ⟨x.text.toArray⟩) := by have := g1 (k * 7 + 5) _ (hfl 5 (by omega)); rw [← Nat.add_assoc] at this; exact this
    have d6 : w2.cell? ⟨b1, o1 + k * 7 + 6, none⟩ = some x.sv := by have := g1 (k * 7 + 6) _ (hfl 6 (by omega)); rw [← Nat.add_assoc] at this; exact this
    simp (config := { maxSteps := 1000000 }) (disch := first | omega | (simp only [sizeAlloc, sizeDrew, sizeSet, sizePut] <;> omega) | fail) only [GS1, GS2, GS3, GS4, GS5, GS6, GS7, GS8, GS9, GS10, GS11, TT_eq, TTl, Nat.reduceAdd, Nat.reduceMul, Nat.reduceSub, Nat.reduceDiv, Nat.reduceMod, Nat.reducePow, Nat.reduceEqDiff, ↓reduceIte, reduceCtorEq, true_and, and_true, and_self, false_and, and_false, Int.reduceToNat, Int.reduceAdd, Int.reduceSub, Int.reduceMul, cond_true, cond_false, List.toList_toArray, Option.map_some, Option.map_none, Option.some.injEq, List.cons_append, List.nil_append, List.length_cons, List.length_nil, List.getD_cons_zero, List.getD_cons_succ, d0, d1, d2, d3, d4, d5, d6]
    refine ⟨fok23, rMayS_cps x k (by omega) _ _ hin fun w3 hM3 => .inl ⟨_, rfl, hold_ops okT (rs := [.tmp 4, .tmp 5, .tmp 6]) rfl ?_⟩⟩
    rw [hlk] at hR hrun
    have hM03 := hM.trans hM3 (by simp)
    by_cases hmay : mayS x k = true
    · rw [if_pos hmay] at hR hrun
      rw [hmay]
      have d0 := cellMod hM3 d0
      have d1 := cellMod hM3 d1
      have d2 := cellMod hM3 d2
      have d3 := cellMod hM3 d3
      have d4 := cellMod hM3 d4
      have d5 := cellMod hM3 d5
      have d6 := cellMod hM3 d6
      have hown3 := ownsRow_mod hown hM3 (by simp)
      simp (config := { maxSteps := 1000000 }) (disch := first | omega | (simp only [sizeAlloc, sizeDrew, sizeSet, sizePut] <;> omega) | fail) only [GS1, GS2, GS3, GS4, GS5, GS6, GS7, GS8, GS9, GS10, GS11, TT_eq, TTl, Nat.reduceAdd, Nat.reduceMul, Nat.reduceSub, Nat.reduceDiv, Nat.reduceMod, Nat.reducePow, Nat.reduceEqDiff, ↓reduceIte, reduceCtorEq, true_and, and_true, and_self, false_and, and_false, Int.reduceToNat, Int.reduceAdd, Int.reduceSub, Int.reduceMul, cond_true, cond_false, List.toList_toArray, Option.map_some, Option.map_none, Option.some.injEq, List.cons_append, List.nil_append, List.length_cons, List.length_nil, List.getD_cons_zero, List.getD_cons_succ, d0, d1, d2, d3, d4, d5, d6]
      refine ⟨fok24, rStep_cps _ lv seen l x _ _ (hrs.mod hM3 (by simp)) (hrl.mod hM3 (by simp)) hs ls hl (by omega) (hin.mod hM3 (by simp)) (by rw [hlk]; exact hmay) fun w4 hM4 => .inl ⟨_, rfl, hold_ops okT (rs := [.tmp 4, .tmp 5, .tmp 6]) rfl ?_⟩⟩
      have hok := @doS_ok seen l x hl (by rw [hlk]; exact hmay)
      have hown4 := ownsRow_mod hown3 hM4 (by simp)
      have hM04 := hM03.trans hM4 (by simp)
      generalize doS seen l x = X at *
      obtain ⟨t, e⟩ := X
      unfold stV
      simp only at hR hrun hok ⊢
      by_cases he : e = 0
      · subst he
        rw [if_pos rfl] at hR hrun
        have hb0 := hM04.size
        simp (config := { maxSteps := 1000000 }) (disch := first | omega | (simp only [sizeAlloc, sizeDrew, sizeSet, sizePut] <;> omega) | fail) only [GS1, GS2, GS3, GS4, GS5, GS6, GS7, GS8, GS9, GS10, GS11, TT_eq, TTl, Nat.reduceAdd, Nat.reduceMul, Nat.reduceSub, Nat.reduceDiv, Nat.reduceMod, Nat.reducePow, Nat.reduceEqDiff, ↓reduceIte, reduceCtorEq, true_and, and_true, and_self, false_and, and_false, Int.reduceToNat, Int.reduceAdd, Int.reduceSub, Int.reduceMul, cond_true, cond_false, List.toList_toArray, Option.map_some, Option.map_none, Option.some.injEq, List.cons_append, List.nil_append, List.length_cons, List.length_nil, List.getD_cons_zero, List.getD_cons_succ]
        refine hold_append1 okT rfl rfl rfl rfl rfl w.heap.size hown4 rfl rfl (u := .string ⟨t.toArray⟩) rfl (by simp only; omega) (by unfold maxLen; omega) hb0 fun v' w5 hown5 hM5 _ => hold_ops okT (rs := [.tmp 4, .tmp 5, .tmp 6]) rfl ?_
        simp (config := { maxSteps := 1000000 }) (disch := first | omega | (simp only [sizeAlloc, sizeDrew, sizeSet, sizePut] <;> omega) | fail) only [GS1, GS2, GS3, GS4, GS5, GS6, GS7, GS8, GS9, GS10, GS11, TT_eq, TTl, Nat.reduceAdd, Nat.reduceMul, Nat.reduceSub, Nat.reduceDiv, Nat.reduceMod, Nat.reducePow, Nat.reduceEqDiff, ↓reduceIte, reduceCtorEq, true_and, and_true, and_self, false_and, and_false, Int.reduceToNat, Int.reduceAdd, Int.reduceSub, Int.reduceMul, cond_true, cond_false, List.toList_toArray, Option.map_some, Option.map_none, Option.some.injEq, List.cons_append, List.nil_append, List.length_cons, List.length_nil, List.getD_cons_zero, List.getD_cons_succ]
        refine ⟨⟨k + 1, l ++ [t], v', by omega, by rw [List.length_append, hlk]; rfl, rfl, ?_, ?_, hrun, hM04.trans hM5 (fun y hy => .inr (hown4.lt y (by simpa using hy)).1)⟩, by omega⟩
        · rw [List.length_append, List.map_append]
          exact hown5
        · intro s hs'
          rw [List.mem_append, List.mem_singleton] at hs'
          rcases hs' with h | rfl
          · exact hl s h
          · exact hok rfl
      · rw [if_neg he] at hR hrun
        simp (config := { maxSteps := 1000000 }) (disch := first | omega | (simp only [sizeAlloc, sizeDrew, sizeSet, sizePut] <;> omega) | fail) only [GS1, GS2, GS3, GS4, GS5, GS6, GS7, GS8, GS9, GS10, GS11, TT_eq, TTl, Nat.reduceAdd, Nat.reduceMul, Nat.reduceSub, Nat.reduceDiv, Nat.reduceMod, Nat.reducePow, Nat.reduceEqDiff, ↓reduceIte, reduceCtorEq, true_and, and_true, and_self, false_and, and_false, Int.reduceToNat, Int.reduceAdd, Int.reduceSub, Int.reduceMul, cond_true, cond_false, List.toList_toArray, Option.map_some, Option.map_none, Option.some.injEq, List.cons_append, List.nil_append, List.length_cons, List.length_nil, List.getD_cons_zero, List.getD_cons_succ, he]
        exact hR _ _ (World.ownsRow_nil _ _ _ _) hM04
    · rw [if_neg hmay] at hR hrun
      rw [Bool.not_eq_true] at hmay
      rw [hmay]
      simp (config := { maxSteps := 1000000 }) (disch := first | omega | (simp only [sizeAlloc, sizeDrew, sizeSet, sizePut] <;> omega) | fail) only [GS1, GS2, GS3, GS4, GS5, GS6, GS7, GS8, GS9, GS10, GS11, TT_eq, TTl, Nat.reduceAdd, Nat.reduceMul, Nat.reduceSub, Nat.reduceDiv, Nat.reduceMod, Nat.reducePow, Nat.reduceEqDiff, ↓reduceIte, reduceCtorEq, true_and, and_true, and_self, false_and, and_false, Int.reduceToNat, Int.reduceAdd, Int.reduceSub, Int.reduceMul, cond_true, cond_false, List.toList_toArray, Option.map_some, Option.map_none, Option.some.injEq, List.cons_append, List.nil_append, List.length_cons, List.length_nil, List.getD_cons_zero, List.getD_cons_succ]
      exact hR _ _ (World.ownsRow_nil _ _ _ _) hM03
  · have e : k = xs.length := by omega
    subst e
    rw [List.drop_length] at hR
    simp only [runS] at hR
    simp (config := { maxSteps := 1000000 }) (disch := first | omega | (simp only [sizeAlloc, sizeDrew, sizeSet, sizePut] <;> omega) | fail) only [GS1, GS2, GS3, GS4, GS5, GS6, GS7, GS8, GS9, GS10, GS11, TT_eq, TTl, Nat.reduceAdd, Nat.reduceMul, Nat.reduceSub, Nat.reduceDiv, Nat.reduceMod, Nat.reducePow, Nat.reduceEqDiff, ↓reduceIte, reduceCtorEq, true_and, and_true, and_self, false_and, and_false, Int.reduceToNat, Int.reduceAdd, Int.reduceSub, Int.reduceMul, cond_true, cond_false, List.toList_toArray, Option.map_some, Option.map_none, Option.some.injEq, List.cons_append, List.nil_append, List.length_cons, List.length_nil, List.getD_cons_zero, List.getD_cons_succ]
    exact hR _ _ hown hM
set_option maxHeartbeats 2000000 in
theorem rRun11_cps (sv ta : Value) (seen : List (List UInt8)) (xs : List Stp) (w : World) (R : Ending → World → Prop) (rs : Rd w 1 sv seen.length (seen.map strV)) (hs : ∀ s ∈ seen, s.length ≤ maxLen) (ls : seen.length ≤ 9223372036854775807) (hx : RdS w ta xs) (hxl : xs.length ≤ 1000)
    (hR : ∀ w', Mod [] w w' → R (.returned (rnV3 (runR' (allT seen xs)))) w') : Calls Try.prog 11 #[sv, ta] w R := by
  unfold runR' at hR
  refine calls_go 4000 okT Try.func11 rfl (rs := [.tmp 4, .tmp 5, .tmp 6]) rfl Try.ntmps11 (args := [sv, ta]) ?_
  simp (config := { maxSteps := 1000000 }) (disch := first | omega | (simp only [sizeAlloc, sizeDrew, sizeSet, sizePut] <;> omega) | fail) only [GS1, GS2, GS3, GS4, GS5, GS6, GS7, GS8, GS9, GS10, GS11, TT_eq, TTl, Nat.reduceAdd, Nat.reduceMul, Nat.reduceSub, Nat.reduceDiv, Nat.reduceMod, Nat.reducePow, Nat.reduceEqDiff, ↓reduceIte, reduceCtorEq, true_and, and_true, and_self, false_and, and_false, Int.reduceToNat, Int.reduceAdd, Int.reduceSub, Int.reduceMul, cond_true, cond_false, List.toList_toArray, Option.map_some, Option.map_none, Option.some.injEq, List.cons_append, List.nil_append, List.length_cons, List.length_nil, List.getD_cons_zero, List.getD_cons_succ]
  refine ⟨fok13, rTerms11_cps sv ta seen xs _ _ rs hs ls hx hxl fun lv w1 hown hM => .inl ⟨_, rfl, hold_ops okT (rs := [.tmp 4, .tmp 5, .tmp 6]) rfl ?_⟩⟩
  have hok := @allT_ok seen xs
  have hrd := Rd.own hown
  obtain ⟨pa, pc, rfl⟩ := hrd.slice
  by_cases he : (allT seen xs).2.2 = 0
  · rw [if_pos he] at hR
    obtain ⟨h1, h2⟩ := hok he
    obtain ⟨b1, o1, c1, e1, f1⟩ := rdAt rfl hrd (i := ((allT seen xs).1.length : Int) - 1) (by omega) (by omega)
    have hat : atL (allT seen xs).1 (((allT seen xs).1.length : Int) - 1) = lastS (allT seen xs).1 := by
      unfold atL lastS
      congr 1
      omega
    rw [hat] at f1
    rw [Value.slice.injEq] at e1
    obtain ⟨rfl, -, -⟩ := e1
    generalize allT seen xs = p at *
    obtain ⟨pl, pat, pe⟩ := p
    simp only at he h1 f1 hR hM hown ⊢
    subst he
    simp (config := { maxSteps := 1000000 }) (disch := first | omega | (simp only [sizeAlloc, sizeDrew, sizeSet, sizePut] <;> omega) | fail) only [GS1, GS2, GS3, GS4, GS5, GS6, GS7, GS8, GS9, GS10, GS11, TT_eq, TTl, Nat.reduceAdd, Nat.reduceMul, Nat.reduceSub, Nat.reduceDiv, Nat.reduceMod, Nat.reducePow, Nat.reduceEqDiff, ↓reduceIte, reduceCtorEq, true_and, and_true, and_self, false_and, and_false, Int.reduceToNat, Int.reduceAdd, Int.reduceSub, Int.reduceMul, cond_true, cond_false, List.toList_toArray, Option.map_some, Option.map_none, Option.some.injEq, List.cons_append, List.nil_append, List.length_cons, List.length_nil, List.getD_cons_zero, List.getD_cons_succ, f1]
    exact hR _ hM
  · rw [if_neg he] at hR
    generalize allT seen xs = p at *
    obtain ⟨pl, pat, pe⟩ := p
    simp only at he hR ⊢
    simp (config := { maxSteps := 1000000 }) (disch := first | omega | (simp only [sizeAlloc, sizeDrew, sizeSet, sizePut] <;> omega) | fail) only [GS1, GS2, GS3, GS4, GS5, GS6, GS7, GS8, GS9, GS10, GS11, TT_eq, TTl, Nat.reduceAdd, Nat.reduceMul, Nat.reduceSub, Nat.reduceDiv, Nat.reduceMod, Nat.reducePow, Nat.reduceEqDiff, ↓reduceIte, reduceCtorEq, true_and, and_true, and_self, false_and, and_false, Int.reduceToNat, Int.reduceAdd, Int.reduceSub, Int.reduceMul, cond_true, cond_false, List.toList_toArray, Option.map_some, Option.map_none, Option.some.injEq, List.cons_append, List.nil_append, List.length_cons, List.length_nil, List.getD_cons_zero, List.getD_cons_succ, he]
    exact hR _ hM
theorem runS_nil {seen : List (List UInt8)} : ∀ (xs : List Stp) (l : List (List UInt8)), (runS seen xs l).2.2 ≠ 0 → (runS seen xs l).1 = []
  | [], l, h => by simp [runS] at h
  | x :: xs, l, h => by
    simp only [runS] at h ⊢
    split
    · rename_i h1
      rw [if_pos h1] at h
      split
      · rename_i h2
        rw [if_pos h2] at h
        exact runS_nil xs _ h
      · rfl
    · rfl
theorem allT_nil {seen : List (List UInt8)} {xs : List Stp} (h : (allT seen xs).2.2 ≠ 0) : (allT seen xs).1 = [] := by
  unfold allT at h ⊢
  split
  · rfl
  · rename_i h0
    rw [if_neg h0] at h
    exact runS_nil xs [] h
set_option maxHeartbeats 8000000 in
theorem runs_cps (pa ma : Value) (p : List (List UInt8)) (m : List Stp) (w : World) (R : Ending → World → Prop) (hp : Rd w 1 pa p.length (p.map strV)) (hps : ∀ s ∈ p, s.length ≤ maxLen) (hpl : p.length ≤ 9223372036854775807) (hm : RdS w ma m) (hml : m.length ≤ 9223372036854775807)
    (hR : ∀ w', Mod [] w w' → R (.returned (.bool true)) w') : Calls Try.prog 3 #[pa, ma] w R := by
  refine calls_go 4000 okT Try.func3 rfl (rs := [.tmp 4]) rfl Try.ntmps3 (args := [pa, ma]) ?_
  simp (config := { maxSteps := 1000000 }) (disch := first | omega | (simp only [sizeAlloc, sizeDrew, sizeSet, sizePut] <;> omega) | fail) only [GS1, GS2, GS3, GS4, GS5, GS6, GS7, GS8, GS9, GS10, GS11, TT_eq, TTl, Nat.reduceAdd, Nat.reduceMul, Nat.reduceSub, Nat.reduceDiv, Nat.reduceMod, Nat.reducePow, Nat.reduceEqDiff, ↓reduceIte, reduceCtorEq, true_and, and_true, and_self, false_and, and_false, Int.reduceToNat, Int.reduceAdd, Int.reduceSub, Int.reduceMul, cond_true, cond_false, List.toList_toArray, Option.map_some, Option.map_none, Option.some.injEq, List.cons_append, List.nil_append, List.length_cons, List.length_nil, List.getD_cons_zero, List.getD_cons_succ]
  refine ⟨fok7, Long10_cps pa p _ _ hpl hps hp fun b1 hb1 => .inl ⟨_, rfl, hold_ops okT (rs := [.tmp 4]) rfl ?_⟩⟩
  cases b1
  · simp (config := { maxSteps := 1000000 }) (disch := first | omega | (simp only [sizeAlloc, sizeDrew, sizeSet, sizePut] <;> omega) | fail) only [GS1, GS2, GS3, GS4, GS5, GS6, GS7, GS8, GS9, GS10, GS11, TT_eq, TTl, Nat.reduceAdd, Nat.reduceMul, Nat.reduceSub, Nat.reduceDiv, Nat.reduceMod, Nat.reducePow, Nat.reduceEqDiff, ↓reduceIte, reduceCtorEq, true_and, and_true, and_self, false_and, and_false, Int.reduceToNat, Int.reduceAdd, Int.reduceSub, Int.reduceMul, cond_true, cond_false, List.toList_toArray, Option.map_some, Option.map_none, Option.some.injEq, List.cons_append, List.nil_append, List.length_cons, List.length_nil, List.getD_cons_zero, List.getD_cons_succ]
    refine ⟨fok8, heavy_cps _ m _ _ hml hm fun b2 hb2 => .inl ⟨_, rfl, hold_ops okT (rs := [.tmp 4]) rfl ?_⟩⟩
    cases b2
    · obtain ⟨hp1, hm1⟩ : p.length ≤ 40 ∧ m.length ≤ 100 := ⟨hb1 rfl, hb2 rfl⟩
      have hz : ∀ {ys : List Stp} {v : World} {sv : Value}, RdS v sv ys → ∀ u ∈ ys.flatMap stpC, u.oneCell' = true := by
        intro ys v sv hy u hu
        obtain ⟨x, hx, hu⟩ := List.mem_flatMap.1 hu
        obtain ⟨a', c', e⟩ := (hy.el x hx).rd.slice
        simp only [stpC, List.mem_cons, List.not_mem_nil, or_false] at hu
        rcases hu with rfl | rfl | rfl | rfl | rfl | rfl | rfl <;> first | rfl | (rw [e]; rfl)
      simp (config := { maxSteps := 1000000 }) (disch := first | omega | (simp only [sizeAlloc, sizeDrew, sizeSet, sizePut] <;> omega) | fail) only [GS1, GS2, GS3, GS4, GS5, GS6, GS7, GS8, GS9, GS10, GS11, TT_eq, TTl, Nat.reduceAdd, Nat.reduceMul, Nat.reduceSub, Nat.reduceDiv, Nat.reduceMod, Nat.reducePow, Nat.reduceEqDiff, ↓reduceIte, reduceCtorEq, true_and, and_true, and_self, false_and, and_false, Int.reduceToNat, Int.reduceAdd, Int.reduceSub, Int.reduceMul, cond_true, cond_false, List.toList_toArray, Option.map_some, Option.map_none, Option.some.injEq, List.cons_append, List.nil_append, List.length_cons, List.length_nil, List.getD_cons_zero, List.getD_cons_succ]
      refine hold_appendR okT rfl rfl rfl rfl (by decide) w.heap.size (World.ownsRow_nil _ _ _ _) rfl rfl hp (by intro u hu; obtain ⟨z, _, rfl⟩ := List.mem_map.1 hu; rfl) (by simp only; omega) (by unfold maxLen; omega) (Nat.le_refl _) fun v1 w1 hown1 hM1 => hold_ops okT (rs := [.tmp 4]) rfl ?_
      rw [Nat.zero_add, List.nil_append] at hown1
      have hM1 : Mod [] w w1 := hM1.mono (by simp [Value.ownBlock])
      have hr1 := Rd.own hown1
      have hmw := hm.mod hM1
      simp (config := { maxSteps := 1000000 }) (disch := first | omega | (simp only [sizeAlloc, sizeDrew, sizeSet, sizePut] <;> omega) | fail) only [GS1, GS2, GS3, GS4, GS5, GS6, GS7, GS8, GS9, GS10, GS11, TT_eq, TTl, Nat.reduceAdd, Nat.reduceMul, Nat.reduceSub, Nat.reduceDiv, Nat.reduceMod, Nat.reducePow, Nat.reduceEqDiff, ↓reduceIte, reduceCtorEq, true_and, and_true, and_self, false_and, and_false, Int.reduceToNat, Int.reduceAdd, Int.reduceSub, Int.reduceMul, cond_true, cond_false, List.toList_toArray, Option.map_some, Option.map_none, Option.some.injEq, List.cons_append, List.nil_append, List.length_cons, List.length_nil, List.getD_cons_zero, List.getD_cons_succ]
      refine hold_appendR okT rfl rfl rfl rfl (by decide) w1.heap.size (World.ownsRow_nil _ _ _ _) rfl rfl hmw.rd (hz hmw) (by simp only; omega) (by unfold maxLen; omega) (Nat.le_refl _) fun v2 w2 hown2 hM2 => hold_ops okT (rs := [.tmp 4]) rfl ?_
      rw [Nat.zero_add, List.nil_append] at hown2
      have hM2 : Mod [] w1 w2 := hM2.mono (by simp [Value.ownBlock])
      have hM02 := hM1.trans hM2 (by simp)
      have hx2 : RdS w2 v2 m := ⟨Rd.own hown2, fun x hx => (hm.mod hM02).el x hx⟩
      simp (config := { maxSteps := 1000000 }) (disch := first | omega | (simp only [sizeAlloc, sizeDrew, sizeSet, sizePut] <;> omega) | fail) only [GS1, GS2, GS3, GS4, GS5, GS6, GS7, GS8, GS9, GS10, GS11, TT_eq, TTl, Nat.reduceAdd, Nat.reduceMul, Nat.reduceSub, Nat.reduceDiv, Nat.reduceMod, Nat.reducePow, Nat.reduceEqDiff, ↓reduceIte, reduceCtorEq, true_and, and_true, and_self, false_and, and_false, Int.reduceToNat, Int.reduceAdd, Int.reduceSub, Int.reduceMul, cond_true, cond_false, List.toList_toArray, Option.map_some, Option.map_none, Option.some.injEq, List.cons_append, List.nil_append, List.length_cons, List.length_nil, List.getD_cons_zero, List.getD_cons_succ]
      refine ⟨fok10, fRun_cps _ _ p m _ _ (hr1.mod hM2 (by simp)) hps hpl hx2 (by omega) fun w3 hM3 => .inl ⟨_, rfl, hold_ops okT (rs := [.tmp 4]) rfl ?_⟩⟩
      have hM13 := hM2.trans hM3 (by simp)
      have hM03 := hM02.trans hM3 (by simp)
      clear hown1 hown2 hx2 hM2 hM3 hM02 hz
      generalize hX1 : runR' (allT p m) = X1 at *
      obtain ⟨s1, at1, e1⟩ := X1
      unfold rnV3
      simp (config := { maxSteps := 1000000 }) (disch := first | omega | (simp only [sizeAlloc, sizeDrew, sizeSet, sizePut] <;> omega) | fail) only [GS1, GS2, GS3, GS4, GS5, GS6, GS7, GS8, GS9, GS10, GS11, TT_eq, TTl, Nat.reduceAdd, Nat.reduceMul, Nat.reduceSub, Nat.reduceDiv, Nat.reduceMod, Nat.reducePow, Nat.reduceEqDiff, ↓reduceIte, reduceCtorEq, true_and, and_true, and_self, false_and, and_false, Int.reduceToNat, Int.reduceAdd, Int.reduceSub, Int.reduceMul, cond_true, cond_false, List.toList_toArray, Option.map_some, Option.map_none, Option.some.injEq, List.cons_append, List.nil_append, List.length_cons, List.length_nil, List.getD_cons_zero, List.getD_cons_succ]
      refine ⟨fok11, rRun11_cps _ _ p m _ _ (hp.mod hM03 (by simp)) hps hpl (hm.mod hM03) (by omega) fun w4 hM4 => .inl ⟨_, rfl, hold_ops okT (rs := [.tmp 4]) rfl ?_⟩⟩
      have hM14 := hM13.trans hM4 (by simp)
      have hM04 := hM03.trans hM4 (by simp)
      clear hM13 hM03
      rw [hX1]
      unfold rnV3
      simp (config := { maxSteps := 1000000 }) (disch := first | omega | (simp only [sizeAlloc, sizeDrew, sizeSet, sizePut] <;> omega) | fail) only [GS1, GS2, GS3, GS4, GS5, GS6, GS7, GS8, GS9, GS10, GS11, TT_eq, TTl, Nat.reduceAdd, Nat.reduceMul, Nat.reduceSub, Nat.reduceDiv, Nat.reduceMod, Nat.reducePow, Nat.reduceEqDiff, ↓reduceIte, reduceCtorEq, true_and, and_true, and_self, false_and, and_false, Int.reduceToNat, Int.reduceAdd, Int.reduceSub, Int.reduceMul, cond_true, cond_false, List.toList_toArray, Option.map_some, Option.map_none, Option.some.injEq, List.cons_append, List.nil_append, List.length_cons, List.length_nil, List.getD_cons_zero, List.getD_cons_succ]
      refine ⟨fok12, fTerms_cps _ _ p m _ _ (hr1.mod hM14 (by simp)) hps hpl (hm.mod hM04) (by omega) fun v5 w5 hown5 hM5 => .inl ⟨_, rfl, hold_ops okT (rs := [.tmp 4]) rfl ?_⟩⟩
      have hM15 := hM14.trans hM5 (by simp)
      have hM05 := hM04.trans hM5 (by simp)
      clear hM14 hM04
      have hr5 := Rd.own hown5
      have f1 := @allT_ok p m
      clear hX1
      generalize hX2 : allT p m = X2 at *
      obtain ⟨l1, at2, e2⟩ := X2
      simp only at hr5 f1 ⊢
      have hll : l1.length ≤ 100 := by
        by_cases he : e2 = 0
        · have := (f1 he).1; omega
        · have := allT_nil (seen := p) (xs := m) (by rw [hX2]; exact he)
          rw [hX2] at this
          simp only at this
          rw [this]; simp
      simp (config := { maxSteps := 1000000 }) (disch := first | omega | (simp only [sizeAlloc, sizeDrew, sizeSet, sizePut] <;> omega) | fail) only [GS1, GS2, GS3, GS4, GS5, GS6, GS7, GS8, GS9, GS10, GS11, TT_eq, TTl, Nat.reduceAdd, Nat.reduceMul, Nat.reduceSub, Nat.reduceDiv, Nat.reduceMod, Nat.reducePow, Nat.reduceEqDiff, ↓reduceIte, reduceCtorEq, true_and, and_true, and_self, false_and, and_false, Int.reduceToNat, Int.reduceAdd, Int.reduceSub, Int.reduceMul, cond_true, cond_false, List.toList_toArray, Option.map_some, Option.map_none, Option.some.injEq, List.cons_append, List.nil_append, List.length_cons, List.length_nil, List.getD_cons_zero, List.getD_cons_succ]
      refine ⟨fok13, rTerms11_cps _ _ p m _ _ (hp.mod hM05 (by simp)) hps hpl (hm.mod hM05) (by omega) fun v6 w6 hown6 hM6 => .inl ⟨_, rfl, hold_ops okT (rs := [.tmp 4]) rfl ?_⟩⟩
      have hM16 := hM15.trans hM6 (by simp)
      have hM06 := hM05.trans hM6 (by simp)
      rw [hX2] at hown6 ⊢
      have hr6 := Rd.own hown6
      simp only at hr6 ⊢
      simp (config := { maxSteps := 1000000 }) (disch := first | omega | (simp only [sizeAlloc, sizeDrew, sizeSet, sizePut] <;> omega) | fail) only [GS1, GS2, GS3, GS4, GS5, GS6, GS7, GS8, GS9, GS10, GS11, TT_eq, TTl, Nat.reduceAdd, Nat.reduceMul, Nat.reduceSub, Nat.reduceDiv, Nat.reduceMod, Nat.reducePow, Nat.reduceEqDiff, ↓reduceIte, reduceCtorEq, true_and, and_true, and_self, false_and, and_false, Int.reduceToNat, Int.reduceAdd, Int.reduceSub, Int.reduceMul, cond_true, cond_false, List.toList_toArray, Option.map_some, Option.map_none, Option.some.injEq, List.cons_append, List.nil_append, List.length_cons, List.length_nil, List.getD_cons_zero, List.getD_cons_succ, eq_self]
      refine ⟨fok14, Same_cps _ _ l1 l1 _ _ (by omega) (hr5.mod hM6 (by simp)) hr6 fun k1 => .inl ⟨_, rfl, hold_ops okT (rs := [.tmp 4]) rfl ?_⟩⟩
      rw [decide_eq_true rfl]
      have hM17 := hM16.drewN k1
      have hM07 := hM06.drewN k1
      generalize w6.drewN k1 = w7 at hM17 hM07 ⊢
      simp (config := { maxSteps := 1000000 }) (disch := first | omega | (simp only [sizeAlloc, sizeDrew, sizeSet, sizePut] <;> omega) | fail) only [GS1, GS2, GS3, GS4, GS5, GS6, GS7, GS8, GS9, GS10, GS11, TT_eq, TTl, Nat.reduceAdd, Nat.reduceMul, Nat.reduceSub, Nat.reduceDiv, Nat.reduceMod, Nat.reducePow, Nat.reduceEqDiff, ↓reduceIte, reduceCtorEq, true_and, and_true, and_self, false_and, and_false, Int.reduceToNat, Int.reduceAdd, Int.reduceSub, Int.reduceMul, cond_true, cond_false, List.toList_toArray, Option.map_some, Option.map_none, Option.some.injEq, List.cons_append, List.nil_append, List.length_cons, List.length_nil, List.getD_cons_zero, List.getD_cons_succ]
      refine ⟨fok14, Same_cps _ _ p p _ _ (by omega) (hr1.mod hM17 (by simp)) (hp.mod hM07 (by simp)) fun k2 => .inl ⟨_, rfl, hold_ops okT (rs := [.tmp 4]) rfl ?_⟩⟩
      rw [decide_eq_true rfl]
      have hM08 := hM07.drewN k2
      generalize w7.drewN k2 = w8 at hM08 ⊢
      simp (config := { maxSteps := 1000000 }) (disch := first | omega | (simp only [sizeAlloc, sizeDrew, sizeSet, sizePut] <;> omega) | fail) only [GS1, GS2, GS3, GS4, GS5, GS6, GS7, GS8, GS9, GS10, GS11, TT_eq, TTl, Nat.reduceAdd, Nat.reduceMul, Nat.reduceSub, Nat.reduceDiv, Nat.reduceMod, Nat.reducePow, Nat.reduceEqDiff, ↓reduceIte, reduceCtorEq, true_and, and_true, and_self, false_and, and_false, Int.reduceToNat, Int.reduceAdd, Int.reduceSub, Int.reduceMul, cond_true, cond_false, List.toList_toArray, Option.map_some, Option.map_none, Option.some.injEq, List.cons_append, List.nil_append, List.length_cons, List.length_nil, List.getD_cons_zero, List.getD_cons_succ]
      refine ⟨fok9, alive_cps _ _ fun wz hMz => .inl ⟨_, rfl, hold_ops okT (rs := [.tmp 4]) rfl ?_⟩⟩
      simp (config := { maxSteps := 1000000 }) (disch := first | omega | (simp only [sizeAlloc, sizeDrew, sizeSet, sizePut] <;> omega) | fail) only [GS1, GS2, GS3, GS4, GS5, GS6, GS7, GS8, GS9, GS10, GS11, TT_eq, TTl, Nat.reduceAdd, Nat.reduceMul, Nat.reduceSub, Nat.reduceDiv, Nat.reduceMod, Nat.reducePow, Nat.reduceEqDiff, ↓reduceIte, reduceCtorEq, true_and, and_true, and_self, false_and, and_false, Int.reduceToNat, Int.reduceAdd, Int.reduceSub, Int.reduceMul, cond_true, cond_false, List.toList_toArray, Option.map_some, Option.map_none, Option.some.injEq, List.cons_append, List.nil_append, List.length_cons, List.length_nil, List.getD_cons_zero, List.getD_cons_succ]
      exact hR _ (hM08.trans hMz (by simp))
    · skip
      simp (config := { maxSteps := 1000000 }) (disch := first | omega | (simp only [sizeAlloc, sizeDrew, sizeSet, sizePut] <;> omega) | fail) only [GS1, GS2, GS3, GS4, GS5, GS6, GS7, GS8, GS9, GS10, GS11, TT_eq, TTl, Nat.reduceAdd, Nat.reduceMul, Nat.reduceSub, Nat.reduceDiv, Nat.reduceMod, Nat.reducePow, Nat.reduceEqDiff, ↓reduceIte, reduceCtorEq, true_and, and_true, and_self, false_and, and_false, Int.reduceToNat, Int.reduceAdd, Int.reduceSub, Int.reduceMul, cond_true, cond_false, List.toList_toArray, Option.map_some, Option.map_none, Option.some.injEq, List.cons_append, List.nil_append, List.length_cons, List.length_nil, List.getD_cons_zero, List.getD_cons_succ]
      refine ⟨fok9, alive_cps _ _ fun wz hMz => .inl ⟨_, rfl, hold_ops okT (rs := [.tmp 4]) rfl ?_⟩⟩
      simp (config := { maxSteps := 1000000 }) (disch := first | omega | (simp only [sizeAlloc, sizeDrew, sizeSet, sizePut] <;> omega) | fail) only [GS1, GS2, GS3, GS4, GS5, GS6, GS7, GS8, GS9, GS10, GS11, TT_eq, TTl, Nat.reduceAdd, Nat.reduceMul, Nat.reduceSub, Nat.reduceDiv, Nat.reduceMod, Nat.reducePow, Nat.reduceEqDiff, ↓reduceIte, reduceCtorEq, true_and, and_true, and_self, false_and, and_false, Int.reduceToNat, Int.reduceAdd, Int.reduceSub, Int.reduceMul, cond_true, cond_false, List.toList_toArray, Option.map_some, Option.map_none, Option.some.injEq, List.cons_append, List.nil_append, List.length_cons, List.length_nil, List.getD_cons_zero, List.getD_cons_succ]
      exact hR _ (hMz)
  · skip
    simp (config := { maxSteps := 1000000 }) (disch := first | omega | (simp only [sizeAlloc, sizeDrew, sizeSet, sizePut] <;> omega) | fail) only [GS1, GS2, GS3, GS4, GS5, GS6, GS7, GS8, GS9, GS10, GS11, TT_eq, TTl, Nat.reduceAdd, Nat.reduceMul, Nat.reduceSub, Nat.reduceDiv, Nat.reduceMod, Nat.reducePow, Nat.reduceEqDiff, ↓reduceIte, reduceCtorEq, true_and, and_true, and_self, false_and, and_false, Int.reduceToNat, Int.reduceAdd, Int.reduceSub, Int.reduceMul, cond_true, cond_false, List.toList_toArray, Option.map_some, Option.map_none, Option.some.injEq, List.cons_append, List.nil_append, List.length_cons, List.length_nil, List.getD_cons_zero, List.getD_cons_succ]
    refine ⟨fok9, alive_cps _ _ fun wz hMz => .inl ⟨_, rfl, hold_ops okT (rs := [.tmp 4]) rfl ?_⟩⟩
    simp (config := { maxSteps := 1000000 }) (disch := first | omega | (simp only [sizeAlloc, sizeDrew, sizeSet, sizePut] <;> omega) | fail) only [GS1, GS2, GS3, GS4, GS5, GS6, GS7, GS8, GS9, GS10, GS11, TT_eq, TTl, Nat.reduceAdd, Nat.reduceMul, Nat.reduceSub, Nat.reduceDiv, Nat.reduceMod, Nat.reducePow, Nat.reduceEqDiff, ↓reduceIte, reduceCtorEq, true_and, and_true, and_self, false_and, and_false, Int.reduceToNat, Int.reduceAdd, Int.reduceSub, Int.reduceMul, cond_true, cond_false, List.toList_toArray, Option.map_some, Option.map_none, Option.some.injEq, List.cons_append, List.nil_append, List.length_cons, List.length_nil, List.getD_cons_zero, List.getD_cons_succ]
    exact hR _ (hMz)
end Go.Proofs.Yticoollhaachfaa
