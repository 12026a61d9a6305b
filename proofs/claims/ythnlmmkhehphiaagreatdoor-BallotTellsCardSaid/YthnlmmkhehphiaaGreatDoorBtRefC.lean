/-
  The reference's members (walks).
-/
import Derived.Test.YthnlmmkhehphiaaGreatDoorBtRefB
import Derived.Test.YthnlmmkhehphiaaGreatDoorBtB1
set_option linter.unusedSimpArgs false
set_option linter.unusedVariables false
set_option maxRecDepth 20000
namespace Go.Proofs.YthnlmmkhehphiaaGreatDoor
open Go Go.Wk Go.RowKit
attribute [local irreducible] go Hold
open Go.Lib
instance : Inhabited Mb := ⟨(0, [])⟩
set_option maxRecDepth 20000 in
set_option maxHeartbeats 16000000 in
theorem rMayMembers_cps (x : Tx) (sa : Value) (l : List Mb) (w : World) (R : Ending → World → Prop) (hl : l.length ≤ 9223372036854775807) (hd : ∀ m ∈ l, m.2.length ≤ maxLen) (ha : Rd w 2 sa l.length (l.flatMap mbC)) (hR : ∀ w', Mod [] w w' → R (.returned (.bool (mbB x.1 l))) w') :
    Calls Tryz.prog 77 #[txV x, sa] w R := by
  obtain ⟨a, b, c⟩ := x
  unfold mbB at hR
  unfold txV
  simp only at hR ⊢
  obtain ⟨la, lc, rfl⟩ := ha.slice
  refine calls_go 4000 okT Tryz.func77 rfl (rs := [.tmp 4]) rfl Tryz.ntmps77 (args := [.agg #[.int .i64 a, .int .i64 b, .int .i64 c], .slice la l.length lc]) ?_
  simp (maxSteps := 1000000) (disch := first | omega | (simp only [sizeAlloc, sizeDrew, sizeSet, sizePut] <;> omega) | fail) only [GS, TT_eq, TTl, Nat.reduceAdd, Nat.reduceMul, Nat.reduceSub, Nat.reduceDiv, Nat.reduceMod, Nat.reducePow, Nat.reduceEqDiff, ↓reduceIte, reduceCtorEq, Int.reduceToNat, Int.reduceAdd, Int.reduceSub, Int.reduceMul]
  have hM := (Mod.refl [] w).alloc (.cells #[.int .i64 a, .int .i64 b, .int .i64 c] 23)
  have hb := heapNew (w := w) (o := .cells #[.int .i64 a, .int .i64 b, .int .i64 c] 23)
  generalize w.alloc (.cells #[.int .i64 a, .int .i64 b, .int .i64 c] 23) = w1 at hM hb ⊢
  generalize w.heap.size = n at *
  by_cases h1 : ((l.length : Nat) : Int) < 1
  · rw [decide_eq_false (show ¬ (1 ≤ l.length ∧ l.length ≤ 6) by omega), Bool.and_false] at hR
    simp (maxSteps := 1000000) (disch := first | omega | (simp only [sizeAlloc, sizeDrew, sizeSet, sizePut] <;> omega) | fail) only [GS, TT_eq, TTl, Nat.reduceAdd, Nat.reduceMul, Nat.reduceSub, Nat.reduceDiv, Nat.reduceMod, Nat.reducePow, Nat.reduceEqDiff, ↓reduceIte, reduceCtorEq, Int.reduceToNat, Int.reduceAdd, Int.reduceSub, Int.reduceMul, h1]
    exact hR _ hM
  by_cases h6 : (6 : Int) < ((l.length : Nat) : Int)
  · rw [decide_eq_false (show ¬ (1 ≤ l.length ∧ l.length ≤ 6) by omega), Bool.and_false] at hR
    simp (maxSteps := 1000000) (disch := first | omega | (simp only [sizeAlloc, sizeDrew, sizeSet, sizePut] <;> omega) | fail) only [GS, TT_eq, TTl, Nat.reduceAdd, Nat.reduceMul, Nat.reduceSub, Nat.reduceDiv, Nat.reduceMod, Nat.reducePow, Nat.reduceEqDiff, ↓reduceIte, reduceCtorEq, Int.reduceToNat, Int.reduceAdd, Int.reduceSub, Int.reduceMul, h1, h6]
    exact hR _ hM
  rw [decide_eq_true (show 1 ≤ l.length ∧ l.length ≤ 6 by omega), Bool.and_true] at hR
  have ha1 := ha.mod hM (by simp)
  simp (maxSteps := 1000000) (disch := first | omega | (simp only [sizeAlloc, sizeDrew, sizeSet, sizePut] <;> omega) | fail) only [GS, TT_eq, TTl, Nat.reduceAdd, Nat.reduceMul, Nat.reduceSub, Nat.reduceDiv, Nat.reduceMod, Nat.reducePow, Nat.reduceEqDiff, ↓reduceIte, reduceCtorEq, Int.reduceToNat, Int.reduceAdd, Int.reduceSub, Int.reduceMul, h1, h6]
  refine hold_loop okT (rs := [.tmp 4]) rfl [5] [4, 14, 15, 16, 17, 18, 19, 20, 21, 22, 23, 24, 25, 26, 27, 28, 29, 30, 31, 32, 33, 34, 35, 36, 37, 38, 39, 40, 41, 42, 43, 44, 45, 46, 47, 48, 49, 50, 51, 52, 53, 54, 55, 56, 57, 58, 59, 60, 61, 62, 63] (fun vs w' => ∃ k : Nat, k ≤ l.length ∧ vs = [.int .i64 k] ∧ Mod [] w1 w' ∧ mbsB a (-1) l = mbsB a (if k = 0 then -1 else (l.getD (k - 1) default).1) (l.drop k)) (fun vs _ => match vs with | [.int _ i] => l.length - i.toNat | _ => 0) (by kernel_rfl) ⟨0, by omega, rfl, Mod.refl _ _, by simp⟩ ?_
  rintro vs w2 J ⟨k, hk, rfl, hM2, hN⟩
  have hM02 := hM.trans hM2 (by simp)
  by_cases hlt : k < l.length
  rotate_left
  · have e : k = l.length := by omega
    subst e
    rw [List.drop_length] at hN
    rw [hN] at hR
    simp only [mbsB] at hR
    simp (maxSteps := 1000000) (disch := first | omega | (simp only [sizeAlloc, sizeDrew, sizeSet, sizePut] <;> omega) | fail) only [GS, TT_eq, TTl, Nat.reduceAdd, Nat.reduceMul, Nat.reduceSub, Nat.reduceDiv, Nat.reduceMod, Nat.reducePow, Nat.reduceEqDiff, ↓reduceIte, reduceCtorEq, Int.reduceToNat, Int.reduceAdd, Int.reduceSub, Int.reduceMul]
    exact hR _ hM02
  have hrd := ha1.mod hM2 (by simp)
  obtain ⟨b1, o1, c1, e1, _, g1⟩ := hrd.at (by omega) (by omega)
  have hfl := fun j hj => flat_get mbC 2 mbC_len l k hlt j hj
  have hdm := hd _ (List.getElem_mem hlt)
  rw [List.drop_eq_getElem_cons hlt, mbsB] at hN
  have hgd : (l.getD (k + 1 - 1) default).1 = l[k].1 := by rw [Nat.add_sub_cancel]; simp [List.getD, hlt]
  have hb2 := hM2.get hb (by simp)
  rw [Value.slice.injEq] at e1
  obtain ⟨rfl, -, -⟩ := e1
  have hpre : 0 < k → ∃ po, w2.cell? ⟨b1, o1 + (k - 1) * 2, none⟩ = some (.int .i64 po) ∧ (l.getD (k - 1) default).1 = po := fun h0 => by
    have hlt2 : k - 1 < l.length := by omega
    have := flat_get mbC 2 mbC_len l (k - 1) hlt2 0 (by omega)
    exact ⟨l[k - 1].1, by rw [← g1 ((k - 1) * 2) _ this], by simp [List.getD, hlt2]⟩
  generalize l[k] = m at hfl hdm hN hgd
  obtain ⟨mo, md⟩ := m
  have d0 : w2.cell? ⟨b1, o1 + k * 2, none⟩ = some (.int .i64 mo) := by rw [← g1 (k * 2) _ (hfl 0 (by omega))]
  have d1 : w2.cell? ⟨b1, o1 + k * 2 + 1, none⟩ = some (.string ⟨md.toArray⟩) := by rw [← g1 (k * 2 + 1) _ (hfl 1 (by omega))]; rfl
  simp only at hN hdm hgd
  generalize hrest : l.drop (k + 1) = rest at hN
  clear hfl g1 hb
  simp (maxSteps := 1000000) (disch := first | omega | (simp only [sizeAlloc, sizeDrew, sizeSet, sizePut] <;> omega) | fail) only [GS, TT_eq, TTl, Nat.reduceAdd, Nat.reduceMul, Nat.reduceSub, Nat.reduceDiv, Nat.reduceMod, Nat.reducePow, Nat.reduceEqDiff, ↓reduceIte, reduceCtorEq, Int.reduceToNat, Int.reduceAdd, Int.reduceSub, Int.reduceMul]
  refine hold_draw okT (rs := [.tmp 4]) rfl [0, 0, 3, 7, 15, 31, 63, 127, 255, 255, 1023, 2047, 4095, 255, 8447, 32767, 65535, 131071, 262143, 524287, 1048575, 2097151, 2097151, 8388607, 16777215, 33554431, 2097151, 2097151, 136314879, 471859199, 1008730111, 2082471935, 4294967295, 8589934591, 17179869183, 34359738367, 68719476735, 68719476735, 274877906943, 549755813887, 1099511627775, 2199023255551, 4398046511103, 8796093022207] [0, 1, 2, 3, 4, 5, 6, 7, 8, 9, 10, 11, 12, 13, 14, 15, 16, 17, 18, 19, 20, 21, 22, 23, 24, 25, 26, 27, 28, 29, 30, 31, 32, 33, 34, 35, 36, 37, 38, 39, 40, 41, 42, 43] (by kernel_rfl) (by kernel_rfl) ?_
  have hb3 : (w2.drewN 1).heap[n]? = _ := hb2
  have d0 : (w2.drewN 1).cell? ⟨b1, o1 + k * 2, none⟩ = some (.int .i64 mo) := d0
  have d1 : (w2.drewN 1).cell? ⟨b1, o1 + k * 2 + 1, none⟩ = some (.string ⟨md.toArray⟩) := d1
  have hpre : 0 < k → ∃ po, (w2.drewN 1).cell? ⟨b1, o1 + (k - 1) * 2, none⟩ = some (.int .i64 po) ∧ (l.getD (k - 1) default).1 = po := hpre
  have hM13 := hM2.drewN 1
  have hM03 := hM02.drewN 1
  generalize w2.drewN 1 = w3 at *
  have c3 := fun o => cellOf (o := o) hb3
  simp (maxSteps := 1000000) (disch := first | omega | (simp only [sizeAlloc, sizeDrew, sizeSet, sizePut] <;> omega) | fail) only [GS, TT_eq, TTl, Nat.reduceAdd, Nat.reduceMul, Nat.reduceSub, Nat.reduceDiv, Nat.reduceMod, Nat.reducePow, Nat.reduceEqDiff, ↓reduceIte, reduceCtorEq, Int.reduceToNat, Int.reduceAdd, Int.reduceSub, Int.reduceMul, d0]
  refine ⟨fok76, rOrg_cps mo _ _ (.inl ⟨_, rfl, ?_⟩)⟩
  first | refine hold_dops okT (rs := [.tmp 4]) rfl ?_ | refine ⟨(by repeat' (first | exact d0 | exact d1 | apply And.intro)), hold_dops okT (rs := [.tmp 4]) rfl ?_⟩
  by_cases ho : orgB mo = true
  rotate_left
  · have ho' : orgB mo = false := by simpa using ho
    rw [hN, decide_eq_false (fun h => ho h.1), Bool.false_and] at hR
    rw [ho']
    simp (maxSteps := 1000000) (disch := first | omega | (simp only [sizeAlloc, sizeDrew, sizeSet, sizePut] <;> omega) | fail) only [GS, TT_eq, TTl, Nat.reduceAdd, Nat.reduceMul, Nat.reduceSub, Nat.reduceDiv, Nat.reduceMod, Nat.reducePow, Nat.reduceEqDiff, ↓reduceIte, reduceCtorEq, Int.reduceToNat, Int.reduceAdd, Int.reduceSub, Int.reduceMul]
    exact hR _ hM03
  rw [ho]
  by_cases hc : mo = a
  · rw [hN, decide_eq_false (fun h => h.2.1 hc), Bool.false_and] at hR
    simp (maxSteps := 1000000) (disch := first | omega | (simp only [sizeAlloc, sizeDrew, sizeSet, sizePut] <;> omega) | fail) only [GS, TT_eq, TTl, Nat.reduceAdd, Nat.reduceMul, Nat.reduceSub, Nat.reduceDiv, Nat.reduceMod, Nat.reducePow, Nat.reduceEqDiff, ↓reduceIte, reduceCtorEq, Int.reduceToNat, Int.reduceAdd, Int.reduceSub, Int.reduceMul, c3, d0, hc]
    exact hR _ hM03
  have hpos : 0 ≤ mo := (of_decide_eq_true ho).1
  by_cases hk0 : (0 : Int) < (k : Int)
  rotate_left
  · have hkz : k = 0 := by omega
    simp (maxSteps := 1000000) (disch := first | omega | (simp only [sizeAlloc, sizeDrew, sizeSet, sizePut] <;> omega) | fail) only [GS, TT_eq, TTl, Nat.reduceAdd, Nat.reduceMul, Nat.reduceSub, Nat.reduceDiv, Nat.reduceMod, Nat.reducePow, Nat.reduceEqDiff, ↓reduceIte, reduceCtorEq, Int.reduceToNat, Int.reduceAdd, Int.reduceSub, Int.reduceMul, c3, d0, d1, hc, hk0]
    refine ⟨fok63, rMay_cps md hdm _ _ fun w4 hM4 => .inl ⟨_, rfl, ?_⟩⟩
    first | refine hold_dops okT (rs := [.tmp 4]) rfl ?_ | refine ⟨(by repeat' (first | exact cellM d0 hM4 | exact cellM d1 hM4 | apply And.intro)), hold_dops okT (rs := [.tmp 4]) rfl ?_⟩
    have hM04 := hM03.trans hM4 (by simp)
    by_cases hck : checkS md = 0
    · rw [decide_eq_true hck]
      simp (maxSteps := 1000000) (disch := first | omega | (simp only [sizeAlloc, sizeDrew, sizeSet, sizePut] <;> omega) | fail) only [GS, TT_eq, TTl, Nat.reduceAdd, Nat.reduceMul, Nat.reduceSub, Nat.reduceDiv, Nat.reduceMod, Nat.reducePow, Nat.reduceEqDiff, ↓reduceIte, reduceCtorEq, Int.reduceToNat, Int.reduceAdd, Int.reduceSub, Int.reduceMul]
      refine ⟨⟨k + 1, by omega, rfl, hM13.trans hM4 (by simp), ?_⟩, by omega⟩
      rw [hN, decide_eq_true ⟨ho, hc, by rw [if_pos hkz]; omega, hck⟩, Bool.true_and, hrest, if_neg (by omega)]
      simp only [Nat.add_sub_cancel] at hgd ⊢
      rw [hgd]
    · rw [hN, decide_eq_false (fun h => hck h.2.2.2), Bool.false_and] at hR
      rw [decide_eq_false hck]
      simp (maxSteps := 1000000) (disch := first | omega | (simp only [sizeAlloc, sizeDrew, sizeSet, sizePut] <;> omega) | fail) only [GS, TT_eq, TTl, Nat.reduceAdd, Nat.reduceMul, Nat.reduceSub, Nat.reduceDiv, Nat.reduceMod, Nat.reducePow, Nat.reduceEqDiff, ↓reduceIte, reduceCtorEq, Int.reduceToNat, Int.reduceAdd, Int.reduceSub, Int.reduceMul]
      exact hR _ hM04
  obtain ⟨po, dp, hpo⟩ := hpre (by omega)
  have hkn : ¬ k = 0 := by omega
  have htn : ((k : Int) - 1).toNat = k - 1 := by omega
  by_cases hle : mo ≤ po
  · rw [hN, decide_eq_false (fun h => by have := h.2.2.1; rw [if_neg hkn, hpo] at this; omega), Bool.false_and] at hR
    simp (maxSteps := 1000000) (disch := first | omega | (simp only [sizeAlloc, sizeDrew, sizeSet, sizePut] <;> omega) | fail) only [GS, TT_eq, TTl, Nat.reduceAdd, Nat.reduceMul, Nat.reduceSub, Nat.reduceDiv, Nat.reduceMod, Nat.reducePow, Nat.reduceEqDiff, ↓reduceIte, reduceCtorEq, Int.reduceToNat, Int.reduceAdd, Int.reduceSub, Int.reduceMul, c3, d0, d1, dp, hc, hk0, htn, hle]
    exact hR _ hM03
  simp (maxSteps := 1000000) (disch := first | omega | (simp only [sizeAlloc, sizeDrew, sizeSet, sizePut] <;> omega) | fail) only [GS, TT_eq, TTl, Nat.reduceAdd, Nat.reduceMul, Nat.reduceSub, Nat.reduceDiv, Nat.reduceMod, Nat.reducePow, Nat.reduceEqDiff, ↓reduceIte, reduceCtorEq, Int.reduceToNat, Int.reduceAdd, Int.reduceSub, Int.reduceMul, c3, d0, d1, dp, hc, hk0, htn, hle]
  refine ⟨fok63, rMay_cps md hdm _ _ fun w4 hM4 => .inl ⟨_, rfl, ?_⟩⟩
  first | refine hold_dops okT (rs := [.tmp 4]) rfl ?_ | refine ⟨(by repeat' (first | exact cellM d0 hM4 | exact cellM d1 hM4 | apply And.intro)), hold_dops okT (rs := [.tmp 4]) rfl ?_⟩
  have hM04 := hM03.trans hM4 (by simp)
  by_cases hck : checkS md = 0
  · rw [decide_eq_true hck]
    simp (maxSteps := 1000000) (disch := first | omega | (simp only [sizeAlloc, sizeDrew, sizeSet, sizePut] <;> omega) | fail) only [GS, TT_eq, TTl, Nat.reduceAdd, Nat.reduceMul, Nat.reduceSub, Nat.reduceDiv, Nat.reduceMod, Nat.reducePow, Nat.reduceEqDiff, ↓reduceIte, reduceCtorEq, Int.reduceToNat, Int.reduceAdd, Int.reduceSub, Int.reduceMul]
    refine ⟨⟨k + 1, by omega, rfl, hM13.trans hM4 (by simp), ?_⟩, by omega⟩
    rw [hN, decide_eq_true ⟨ho, hc, by rw [if_neg hkn, hpo]; omega, hck⟩, Bool.true_and, hrest, if_neg (by omega)]
    simp only [Nat.add_sub_cancel] at hgd ⊢
    rw [hgd]
  · rw [hN, decide_eq_false (fun h => hck h.2.2.2), Bool.false_and] at hR
    rw [decide_eq_false hck]
    simp (maxSteps := 1000000) (disch := first | omega | (simp only [sizeAlloc, sizeDrew, sizeSet, sizePut] <;> omega) | fail) only [GS, TT_eq, TTl, Nat.reduceAdd, Nat.reduceMul, Nat.reduceSub, Nat.reduceDiv, Nat.reduceMod, Nat.reducePow, Nat.reduceEqDiff, ↓reduceIte, reduceCtorEq, Int.reduceToNat, Int.reduceAdd, Int.reduceSub, Int.reduceMul]
    exact hR _ hM04
end Go.Proofs.YthnlmmkhehphiaaGreatDoor
