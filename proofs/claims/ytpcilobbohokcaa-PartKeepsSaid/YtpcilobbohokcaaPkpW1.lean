/-
  Numbers of terms; organisations, transactions, members (walks). wire: must, num, unnum, row, Txn (walks). wire: Members, unmembers, try (walks). wire: unmembers, try (walks). wire.try (walk).
-/
import Derived.Test.YtpcilobbohokcaaPkpB5
import Derived.Test.YtpcilobbohokcaaPkpB1
set_option linter.unusedSimpArgs false
set_option linter.unusedVariables false
namespace Go.Proofs.Ytpcilobbohokcaa
open Go Go.Wk Go.RowKit
attribute [local irreducible] go Hold
open Go.Lib
def orgB (k : Int) : Bool := decide (0 ≤ k ∧ k < 8)
theorem wOrg_cps (k : Int) (w : World) (R : Ending → World → Prop) (hR : R (.returned (.bool (orgB k))) w) : Calls Try.prog 84 #[.int .i64 k] w R := by
  unfold orgB at hR
  refine calls_go 4000 okT Try.func84 rfl (rs := [.tmp 2]) rfl Try.ntmps84 (args := [.int .i64 k]) ?_
  by_cases h1 : 0 ≤ k
  · by_cases h2 : k < 8
    · rw [decide_eq_true ⟨h1, h2⟩] at hR
      simp (maxSteps := 1000000) (disch := first | omega | (simp only [sizeAlloc, sizeDrew, sizeSet, sizePut] <;> omega) | fail) only [GS, TT_eq, TTl, Nat.reduceAdd, Nat.reduceMul, Nat.reduceSub, Nat.reduceDiv, Nat.reduceMod, Nat.reducePow, Nat.reduceEqDiff, ↓reduceIte, reduceCtorEq, Int.reduceToNat, Int.reduceAdd, Int.reduceSub, Int.reduceMul]
      exact hR
    · rw [decide_eq_false (fun h => h2 h.2)] at hR
      simp (maxSteps := 1000000) (disch := first | omega | (simp only [sizeAlloc, sizeDrew, sizeSet, sizePut] <;> omega) | fail) only [GS, TT_eq, TTl, Nat.reduceAdd, Nat.reduceMul, Nat.reduceSub, Nat.reduceDiv, Nat.reduceMod, Nat.reducePow, Nat.reduceEqDiff, ↓reduceIte, reduceCtorEq, Int.reduceToNat, Int.reduceAdd, Int.reduceSub, Int.reduceMul]
      exact hR
  · rw [decide_eq_false (fun h => h1 h.1)] at hR
    simp (maxSteps := 1000000) (disch := first | omega | (simp only [sizeAlloc, sizeDrew, sizeSet, sizePut] <;> omega) | fail) only [GS, TT_eq, TTl, Nat.reduceAdd, Nat.reduceMul, Nat.reduceSub, Nat.reduceDiv, Nat.reduceMod, Nat.reducePow, Nat.reduceEqDiff, ↓reduceIte, reduceCtorEq, Int.reduceToNat, Int.reduceAdd, Int.reduceSub, Int.reduceMul]
    exact hR
/-- A transaction's name. -/
abbrev Tx := Int × Int × Int
def txC (x : Tx) : List Value := [.int .i64 x.1, .int .i64 x.2.1, .int .i64 x.2.2]
def txV (x : Tx) : Value := .agg #[.int .i64 x.1, .int .i64 x.2.1, .int .i64 x.2.2]
def txB (x : Tx) : Bool := decide (0 ≤ x.1 ∧ x.1 < 8 ∧ 1 ≤ x.2.1 ∧ x.2.1 ≤ 255 ∧ 1 ≤ x.2.2 ∧ x.2.2 ≤ 65535)
set_option maxHeartbeats 4000000 in
theorem wMayTxn_cps (x : Tx) (w : World) (R : Ending → World → Prop) (hR : ∀ w', Mod [] w w' → R (.returned (.bool (txB x))) w') : Calls Try.prog 46 #[txV x] w R := by
  obtain ⟨a, b, c⟩ := x
  unfold txB at hR
  unfold txV
  simp only at hR ⊢
  refine calls_go 4000 okT Try.func46 rfl (rs := [.tmp 2]) rfl Try.ntmps46 (args := [.agg #[.int .i64 a, .int .i64 b, .int .i64 c]]) ?_
  simp (maxSteps := 1000000) (disch := first | omega | (simp only [sizeAlloc, sizeDrew, sizeSet, sizePut] <;> omega) | fail) only [GS, TT_eq, TTl, Nat.reduceAdd, Nat.reduceMul, Nat.reduceSub, Nat.reduceDiv, Nat.reduceMod, Nat.reducePow, Nat.reduceEqDiff, ↓reduceIte, reduceCtorEq, Int.reduceToNat, Int.reduceAdd, Int.reduceSub, Int.reduceMul]
  have hM := (Mod.refl [] w).alloc (.cells #[.int .i64 a, .int .i64 b, .int .i64 c] 23)
  have hb := heapNew (w := w) (o := .cells #[.int .i64 a, .int .i64 b, .int .i64 c] 23)
  generalize w.alloc (.cells #[.int .i64 a, .int .i64 b, .int .i64 c] 23) = w1 at hM hb ⊢
  generalize w.heap.size = n at *
  have c1 : w1.cell? ⟨n, 1, none⟩ = some (.int .i64 b) := by rw [cellOf hb]; rfl
  have c2 : w1.cell? ⟨n, 2, none⟩ = some (.int .i64 c) := by rw [cellOf hb]; rfl
  have hR := hR _ hM
  refine ⟨fok84, wOrg_cps a _ _ (.inl ⟨_, rfl, hold_ops okT (rs := [.tmp 2]) rfl ?_⟩)⟩
  unfold orgB
  by_cases h1 : 0 ≤ a ∧ a < 8
  · rw [decide_eq_true h1]
    by_cases h2 : 1 ≤ b
    · by_cases h3 : b ≤ 255
      · by_cases h4 : 1 ≤ c
        · by_cases h5 : c ≤ 65535
          · rw [decide_eq_true (by omega)] at hR
            simp (maxSteps := 1000000) (disch := first | omega | (simp only [sizeAlloc, sizeDrew, sizeSet, sizePut] <;> omega) | fail) only [GS, TT_eq, TTl, Nat.reduceAdd, Nat.reduceMul, Nat.reduceSub, Nat.reduceDiv, Nat.reduceMod, Nat.reducePow, Nat.reduceEqDiff, ↓reduceIte, reduceCtorEq, Int.reduceToNat, Int.reduceAdd, Int.reduceSub, Int.reduceMul, c1, c2]
            exact hR
          · rw [decide_eq_false (by omega)] at hR
            simp (maxSteps := 1000000) (disch := first | omega | (simp only [sizeAlloc, sizeDrew, sizeSet, sizePut] <;> omega) | fail) only [GS, TT_eq, TTl, Nat.reduceAdd, Nat.reduceMul, Nat.reduceSub, Nat.reduceDiv, Nat.reduceMod, Nat.reducePow, Nat.reduceEqDiff, ↓reduceIte, reduceCtorEq, Int.reduceToNat, Int.reduceAdd, Int.reduceSub, Int.reduceMul, c1, c2]
            exact hR
        · rw [decide_eq_false (by omega)] at hR
          simp (maxSteps := 1000000) (disch := first | omega | (simp only [sizeAlloc, sizeDrew, sizeSet, sizePut] <;> omega) | fail) only [GS, TT_eq, TTl, Nat.reduceAdd, Nat.reduceMul, Nat.reduceSub, Nat.reduceDiv, Nat.reduceMod, Nat.reducePow, Nat.reduceEqDiff, ↓reduceIte, reduceCtorEq, Int.reduceToNat, Int.reduceAdd, Int.reduceSub, Int.reduceMul, c1, c2]
          exact hR
      · rw [decide_eq_false (by omega)] at hR
        simp (maxSteps := 1000000) (disch := first | omega | (simp only [sizeAlloc, sizeDrew, sizeSet, sizePut] <;> omega) | fail) only [GS, TT_eq, TTl, Nat.reduceAdd, Nat.reduceMul, Nat.reduceSub, Nat.reduceDiv, Nat.reduceMod, Nat.reducePow, Nat.reduceEqDiff, ↓reduceIte, reduceCtorEq, Int.reduceToNat, Int.reduceAdd, Int.reduceSub, Int.reduceMul, c1, c2]
        exact hR
    · rw [decide_eq_false (by omega)] at hR
      simp (maxSteps := 1000000) (disch := first | omega | (simp only [sizeAlloc, sizeDrew, sizeSet, sizePut] <;> omega) | fail) only [GS, TT_eq, TTl, Nat.reduceAdd, Nat.reduceMul, Nat.reduceSub, Nat.reduceDiv, Nat.reduceMod, Nat.reducePow, Nat.reduceEqDiff, ↓reduceIte, reduceCtorEq, Int.reduceToNat, Int.reduceAdd, Int.reduceSub, Int.reduceMul, c1, c2]
      exact hR
  · rw [decide_eq_false h1]
    rw [decide_eq_false (by omega)] at hR
    simp (maxSteps := 1000000) (disch := first | omega | (simp only [sizeAlloc, sizeDrew, sizeSet, sizePut] <;> omega) | fail) only [GS, TT_eq, TTl, Nat.reduceAdd, Nat.reduceMul, Nat.reduceSub, Nat.reduceDiv, Nat.reduceMod, Nat.reducePow, Nat.reduceEqDiff, ↓reduceIte, reduceCtorEq, Int.reduceToNat, Int.reduceAdd, Int.reduceSub, Int.reduceMul, c1, c2]
    exact hR
/-- A member: an organisation, a digest. -/
abbrev Mb := Int × List UInt8
def mbC (x : Mb) : List Value := [.int .i64 x.1, .string ⟨x.2.toArray⟩]
theorem mbC_len (x : Mb) : (mbC x).length = 2 := rfl
def mbsB (c : Int) : Int → List Mb → Bool
  | _, [] => true
  | last, x :: l => decide (orgB x.1 = true ∧ x.1 ≠ c ∧ last < x.1 ∧ checkS x.2 = 0) && mbsB c x.1 l
def mbB (c : Int) (l : List Mb) : Bool := mbsB c (-1) l && decide (1 ≤ l.length ∧ l.length ≤ 6)
set_option maxRecDepth 20000 in
set_option maxHeartbeats 8000000 in
theorem wMayMembers_cps (x : Tx) (sa : Value) (l : List Mb) (w : World) (R : Ending → World → Prop) (hl : l.length ≤ 1000000) (hd : ∀ m ∈ l, m.2.length ≤ maxLen) (ha : Rd w 2 sa l.length (l.flatMap mbC)) (hR : ∀ w', Mod [] w w' → R (.returned (.bool (mbB x.1 l))) w') :
    Calls Try.prog 47 #[txV x, sa] w R := by
  obtain ⟨a, b, c⟩ := x
  unfold mbB at hR
  unfold txV
  simp only at hR ⊢
  obtain ⟨la, lc, rfl⟩ := ha.slice
  refine calls_go 4000 okT Try.func47 rfl (rs := [.tmp 4]) rfl Try.ntmps47 (args := [.agg #[.int .i64 a, .int .i64 b, .int .i64 c], .slice la l.length lc]) ?_
  simp (maxSteps := 1000000) (disch := first | omega | (simp only [sizeAlloc, sizeDrew, sizeSet, sizePut] <;> omega) | fail) only [GS, TT_eq, TTl, Nat.reduceAdd, Nat.reduceMul, Nat.reduceSub, Nat.reduceDiv, Nat.reduceMod, Nat.reducePow, Nat.reduceEqDiff, ↓reduceIte, reduceCtorEq, Int.reduceToNat, Int.reduceAdd, Int.reduceSub, Int.reduceMul]
  have hM := (Mod.refl [] w).alloc (.cells #[.int .i64 a, .int .i64 b, .int .i64 c] 23)
  have hb := heapNew (w := w) (o := .cells #[.int .i64 a, .int .i64 b, .int .i64 c] 23)
  generalize w.alloc (.cells #[.int .i64 a, .int .i64 b, .int .i64 c] 23) = w1 at hM hb ⊢
  generalize hn : w.heap.size = n at *
  refine hold_loop okT (rs := [.tmp 4]) rfl [5, 10] [4, 7, 11, 12, 13, 14, 15, 16, 17, 18, 19, 20, 21, 22, 23, 24, 25, 26, 27, 28, 29, 30, 31, 32, 33, 34, 35, 36, 37, 38, 39] (fun vs w' => ∃ (k : Nat) (last : Int), vs = [.int .i64 last, .int .i64 k] ∧ k ≤ l.length ∧ mbsB a (-1) l = mbsB a last (l.drop k) ∧ Mod [] w1 w') (fun vs _ => match vs with | [_, .int _ i] => l.length - i.toNat | _ => 0) (by kernel_rfl) ⟨0, -1, rfl, by omega, by rw [List.drop_zero], Mod.refl _ _⟩ ?_
  rintro vs w2 J ⟨k, last, rfl, hk, hX, hM2⟩
  have hb2 := hM2.get hb (by simp)
  have c0 : w2.cell? ⟨n, 0, none⟩ = some (.int .i64 a) := by rw [cellOf hb2]; rfl
  have hrd := (ha.mod hM (by simp)).mod hM2 (by simp)
  by_cases hlt : k < l.length
  · obtain ⟨b1, o1, c1, e1, _, g1⟩ := hrd.at (by omega) (by omega)
    have hfl := fun j hj => flat_get mbC 2 mbC_len l k hlt j hj
    have hdm := hd _ (List.getElem_mem hlt)
    rw [List.drop_eq_getElem_cons hlt, mbsB] at hX
    generalize l[k] = m at hfl hdm hX
    obtain ⟨mo, md⟩ := m
    rw [Value.slice.injEq] at e1
    obtain ⟨rfl, -, -⟩ := e1
    have d0 : w2.cell? ⟨b1, o1 + k * 2, none⟩ = some (.int .i64 mo) := by rw [← g1 (k * 2) _ (hfl 0 (by omega))]
    have d1 : w2.cell? ⟨b1, o1 + k * 2 + 1, none⟩ = some (.string ⟨md.toArray⟩) := by rw [← g1 (k * 2 + 1) _ (hfl 1 (by omega))]; rfl
    simp only at hX hdm
    simp (maxSteps := 1000000) (disch := first | omega | (simp only [sizeAlloc, sizeDrew, sizeSet, sizePut] <;> omega) | fail) only [GS, TT_eq, TTl, Nat.reduceAdd, Nat.reduceMul, Nat.reduceSub, Nat.reduceDiv, Nat.reduceMod, Nat.reducePow, Nat.reduceEqDiff, ↓reduceIte, reduceCtorEq, Int.reduceToNat, Int.reduceAdd, Int.reduceSub, Int.reduceMul, d0, d1]
    have hMx := (((Mod.refl [] w2).alloc (.cells #[.int .i64 0, .string ⟨#[]⟩] 59)).set (p := ⟨w2.heap.size, 0, none⟩) (.inr (Nat.le_refl _)) (.int .i64 mo)).set (p := ⟨w2.heap.size, 1, none⟩) (.inr (Nat.le_refl _)) (.string ⟨md.toArray⟩)
    have hbx := heapSet (o := 1) (v := .string ⟨md.toArray⟩) (heapSet (o := 0) (v := .int .i64 mo) (heapNew (w := w2) (o := .cells #[.int .i64 0, .string ⟨#[]⟩] 59)))
    generalize ((w2.alloc (.cells #[.int .i64 0, .string ⟨#[]⟩] 59)).setCell ⟨w2.heap.size, 0, none⟩ (.int .i64 mo)).setCell ⟨w2.heap.size, 1, none⟩ (.string ⟨md.toArray⟩) = w3 at hMx hbx ⊢
    have hbn := hMx.get hb2 (by simp)
    generalize hx : w2.heap.size = nx at *
    have d5 : w3.cell? ⟨nx, 0, none⟩ = some (.int .i64 mo) := by rw [cellOf hbx]; rfl
    have d6 : w3.cell? ⟨nx, 1, none⟩ = some (.string ⟨md.toArray⟩) := by rw [cellOf hbx]; rfl
    have d7 : w3.cell? ⟨n, 0, none⟩ = some (.int .i64 a) := by rw [cellOf hbn]; rfl
    have hM3 := hM2.trans hMx (by simp)
    have hF : mbsB a (-1) l = false → R (.returned (.bool false)) w3 := fun h => by
      have := hR _ (hM.trans hM3 (by simp))
      rw [h, Bool.false_and] at this; exact this
    refine ⟨fok84, wOrg_cps mo _ _ (.inl ⟨_, rfl, hold_ops okT (rs := [.tmp 4]) rfl ?_⟩)⟩
    cases ho : orgB mo
    · rw [decide_eq_false (by rw [ho]; simp), Bool.false_and] at hX
      simp (maxSteps := 1000000) (disch := first | omega | (simp only [sizeAlloc, sizeDrew, sizeSet, sizePut] <;> omega) | fail) only [GS, TT_eq, TTl, Nat.reduceAdd, Nat.reduceMul, Nat.reduceSub, Nat.reduceDiv, Nat.reduceMod, Nat.reducePow, Nat.reduceEqDiff, ↓reduceIte, reduceCtorEq, Int.reduceToNat, Int.reduceAdd, Int.reduceSub, Int.reduceMul]
      exact hF hX
    by_cases h1 : mo = a
    · rw [decide_eq_false (fun h => h.2.1 h1), Bool.false_and] at hX
      simp (maxSteps := 1000000) (disch := first | omega | (simp only [sizeAlloc, sizeDrew, sizeSet, sizePut] <;> omega) | fail) only [GS, TT_eq, TTl, Nat.reduceAdd, Nat.reduceMul, Nat.reduceSub, Nat.reduceDiv, Nat.reduceMod, Nat.reducePow, Nat.reduceEqDiff, ↓reduceIte, reduceCtorEq, Int.reduceToNat, Int.reduceAdd, Int.reduceSub, Int.reduceMul, d5, d6, d7]
      exact hF hX
    by_cases h2 : mo ≤ last
    · rw [decide_eq_false (fun h => by have := h.2.2.1; omega), Bool.false_and] at hX
      simp (maxSteps := 1000000) (disch := first | omega | (simp only [sizeAlloc, sizeDrew, sizeSet, sizePut] <;> omega) | fail) only [GS, TT_eq, TTl, Nat.reduceAdd, Nat.reduceMul, Nat.reduceSub, Nat.reduceDiv, Nat.reduceMod, Nat.reducePow, Nat.reduceEqDiff, ↓reduceIte, reduceCtorEq, Int.reduceToNat, Int.reduceAdd, Int.reduceSub, Int.reduceMul, d5, d6, d7]
      exact hF hX
    simp (maxSteps := 1000000) (disch := first | omega | (simp only [sizeAlloc, sizeDrew, sizeSet, sizePut] <;> omega) | fail) only [GS, TT_eq, TTl, Nat.reduceAdd, Nat.reduceMul, Nat.reduceSub, Nat.reduceDiv, Nat.reduceMod, Nat.reducePow, Nat.reduceEqDiff, ↓reduceIte, reduceCtorEq, Int.reduceToNat, Int.reduceAdd, Int.reduceSub, Int.reduceMul, d5, d6, d7]
    refine ⟨fok12, tCheck_cps md hdm _ _ fun w4 hM4 => .inl ⟨_, rfl, hold_ops okT (rs := [.tmp 4]) rfl ?_⟩⟩
    have hbx4 := hM4.get hbx (by simp)
    have d8 : w4.cell? ⟨nx, 0, none⟩ = some (.int .i64 mo) := by rw [cellOf hbx4]; rfl
    have hM4 := hM3.trans hM4 (by simp)
    by_cases h3 : checkS md = 0
    · rw [decide_eq_true ⟨ho, h1, by omega, h3⟩, Bool.true_and] at hX
      simp (maxSteps := 1000000) (disch := first | omega | (simp only [sizeAlloc, sizeDrew, sizeSet, sizePut] <;> omega) | fail) only [GS, TT_eq, TTl, Nat.reduceAdd, Nat.reduceMul, Nat.reduceSub, Nat.reduceDiv, Nat.reduceMod, Nat.reducePow, Nat.reduceEqDiff, ↓reduceIte, reduceCtorEq, Int.reduceToNat, Int.reduceAdd, Int.reduceSub, Int.reduceMul, d8]
      exact ⟨⟨k + 1, mo, rfl, by omega, hX, hM4⟩, by omega⟩
    · rw [decide_eq_false (fun h => h3 h.2.2.2), Bool.false_and] at hX
      simp (maxSteps := 1000000) (disch := first | omega | (simp only [sizeAlloc, sizeDrew, sizeSet, sizePut] <;> omega) | fail) only [GS, TT_eq, TTl, Nat.reduceAdd, Nat.reduceMul, Nat.reduceSub, Nat.reduceDiv, Nat.reduceMod, Nat.reducePow, Nat.reduceEqDiff, ↓reduceIte, reduceCtorEq, Int.reduceToNat, Int.reduceAdd, Int.reduceSub, Int.reduceMul, d8]
      have := hR _ (hM.trans hM4 (by simp))
      rw [hX, Bool.false_and] at this
      exact this
  · have e : k = l.length := by omega
    subst e
    rw [List.drop_length, mbsB] at hX
    rw [hX, Bool.true_and] at hR
    have hR := hR _ (hM.trans hM2 (by simp))
    by_cases h1 : 1 ≤ l.length
    · by_cases h6 : l.length ≤ 6
      · rw [decide_eq_true ⟨h1, h6⟩] at hR
        simp (maxSteps := 1000000) (disch := first | omega | (simp only [sizeAlloc, sizeDrew, sizeSet, sizePut] <;> omega) | fail) only [GS, TT_eq, TTl, Nat.reduceAdd, Nat.reduceMul, Nat.reduceSub, Nat.reduceDiv, Nat.reduceMod, Nat.reducePow, Nat.reduceEqDiff, ↓reduceIte, reduceCtorEq, Int.reduceToNat, Int.reduceAdd, Int.reduceSub, Int.reduceMul]
        exact hR
      · rw [decide_eq_false (fun h => h6 h.2)] at hR
        simp (maxSteps := 1000000) (disch := first | omega | (simp only [sizeAlloc, sizeDrew, sizeSet, sizePut] <;> omega) | fail) only [GS, TT_eq, TTl, Nat.reduceAdd, Nat.reduceMul, Nat.reduceSub, Nat.reduceDiv, Nat.reduceMod, Nat.reducePow, Nat.reduceEqDiff, ↓reduceIte, reduceCtorEq, Int.reduceToNat, Int.reduceAdd, Int.reduceSub, Int.reduceMul]
        exact hR
    · rw [decide_eq_false (fun h => h1 h.1)] at hR
      simp (maxSteps := 1000000) (disch := first | omega | (simp only [sizeAlloc, sizeDrew, sizeSet, sizePut] <;> omega) | fail) only [GS, TT_eq, TTl, Nat.reduceAdd, Nat.reduceMul, Nat.reduceSub, Nat.reduceDiv, Nat.reduceMod, Nat.reducePow, Nat.reduceEqDiff, ↓reduceIte, reduceCtorEq, Int.reduceToNat, Int.reduceAdd, Int.reduceSub, Int.reduceMul]
      exact hR
end Go.Proofs.Ytpcilobbohokcaa
set_option linter.unusedSimpArgs false
set_option linter.unusedVariables false
namespace Go.Proofs.Ytpcilobbohokcaa
open Go Go.Wk Go.RowKit
attribute [local irreducible] go Hold
open Go.Lib
end Go.Proofs.Ytpcilobbohokcaa
set_option linter.unusedSimpArgs false
set_option linter.unusedVariables false
namespace Go.Proofs.Ytpcilobbohokcaa
open Go Go.Wk Go.RowKit
attribute [local irreducible] go Hold
open Go.Lib
end Go.Proofs.Ytpcilobbohokcaa
set_option linter.unusedSimpArgs false
set_option linter.unusedVariables false
namespace Go.Proofs.Ytpcilobbohokcaa
open Go Go.Wk Go.RowKit
attribute [local irreducible] go Hold
open Go.Lib
end Go.Proofs.Ytpcilobbohokcaa
set_option linter.unusedSimpArgs false
set_option linter.unusedVariables false
namespace Go.Proofs.Ytpcilobbohokcaa
open Go Go.Wk Go.RowKit
attribute [local irreducible] go Hold
open Go.Lib
end Go.Proofs.Ytpcilobbohokcaa
