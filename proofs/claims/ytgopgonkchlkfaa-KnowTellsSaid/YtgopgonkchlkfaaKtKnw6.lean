/-
  How much a statement looks at; who has seen some terms (walks).
-/
import Derived.Test.YtgopgonkchlkfaaKtKnw5
import Derived.Test.YtgopgonkchlkfaaKtFsd1
set_option linter.unusedSimpArgs false
set_option linter.unusedVariables false
set_option maxRecDepth 20000
namespace Go.Proofs.Ytgopgonkchlkfaa
open Go Go.Wk Go.RowKit
attribute [local irreducible] go Hold
open Go.Lib
def sumL (l : List Tm) : Nat := (l.map List.length).sum
theorem sumL_cons (x : Tm) (l : List Tm) : sumL (x :: l) = x.length + sumL l := by simp [sumL]
theorem sumL_app (l m : List Tm) : sumL (l ++ m) = sumL l + sumL m := by simp [sumL]
theorem sumL_ok : ∀ l : List Tm, sumL (okL l) ≤ sumL l
  | [] => Nat.le_refl _
  | x :: l => by
    have ih := sumL_ok l
    unfold okL at ih ⊢
    rw [List.filter_cons]
    split
    · rw [sumL_cons, sumL_cons]; omega
    · rw [sumL_cons]; omega
theorem sumL_take (l : List Tm) (k : Nat) : sumL (l.take k) ≤ sumL l := by
  have h : sumL l = sumL (l.take k) + sumL (l.drop k) := by rw [← sumL_app, List.take_append_drop]
  omega
theorem KnIs.small {S : List Tm} {E : List Ent} (h : KnIs S E) (hS : ∀ s ∈ S, checkS s = 0) : 3 * E.length ≤ sumL S := by
  have h1 := h.num hS
  have h2 := flatW hS
  unfold sumL
  omega
theorem okL_app (l m : List Tm) : okL (l ++ m) = okL l ++ okL m := by unfold okL; exact List.filter_append ..
theorem okL_one {t : Tm} (h : checkS t = 0) : okL [t] = [t] := by unfold okL; simp [h]
theorem okL_no {t : Tm} (h : checkS t ≠ 0) : okL [t] = [] := by unfold okL; simp [h]
set_option maxHeartbeats 2000000 in
theorem Long10s_cps (sa : Value) (xs : List (List UInt8)) (w : World) (R : Ending → World → Prop) (hx : xs.length ≤ 9223372036854775807) (hxs : ∀ s ∈ xs, s.length ≤ maxLen) (ha : Rd w 1 sa xs.length (xs.map strV))
    (hR : ∀ b : Bool, (b = false → xs.length ≤ 40 ∧ sumL xs ≤ 6000) → R (.returned (.bool b)) w) : Calls Try.prog 12 #[sa] w R := by
  obtain ⟨a, ca, rfl⟩ := ha.slice
  refine calls_go 4000 okT Try.func12 rfl (rs := [.tmp 2]) rfl Try.ntmps12 (args := [.slice a xs.length ca]) ?_
  simp (maxSteps := 1000000) (disch := first | omega | (simp only [sizeAlloc, sizeDrew, sizeSet, sizePut] <;> omega) | fail) only [GS, TT_eq, TTl, Nat.reduceAdd, Nat.reduceMul, Nat.reduceSub, Nat.reduceDiv, Nat.reduceMod, Nat.reducePow, Nat.reduceEqDiff, ↓reduceIte, reduceCtorEq, Int.reduceToNat, Int.reduceAdd, Int.reduceSub, Int.reduceMul]
  refine hold_loop okT (rs := [.tmp 2]) rfl [3, 4] [5, 6, 7, 8, 9, 10, 11, 12, 13, 14, 15, 16, 17, 18, 19, 20, 21, 22] (fun vs w' => ∃ k s : Nat, k ≤ xs.length ∧ k ≤ 60 ∧ s ≤ k * 65536 ∧ (s ≤ 6000 → sumL (xs.take k) ≤ s) ∧ vs = [.int .i64 s, .int .i64 k] ∧ w' = w) (fun vs _ => match vs with | [_, .int _ i] => 60 - i.toNat | _ => 0) (by kernel_rfl) ⟨0, 0, by omega, by omega, by omega, by simp [sumL], rfl, rfl⟩ ?_
  rintro vs w' J ⟨k, s, hk, hk60, hs, hsm, rfl, rfl⟩
  by_cases hlt : k < xs.length
  · by_cases h60 : k < 60
    · obtain ⟨b1, o1, c1, e1, _, g1⟩ := ha.at (by omega) (by omega)
      have f1 := g1 k _ (getS hlt)
      rw [Value.slice.injEq] at e1
      obtain ⟨rfl, -, -⟩ := e1
      have hml := hxs _ (List.getElem_mem hlt)
      unfold maxLen at hml
      have htk := List.take_succ_eq_append_getElem hlt
      generalize xs[k] = z at f1 hml htk
      have hmin : min ((z.length : Nat) : Int) 65536 = ((min z.length 65536 : Nat) : Int) := by omega
      have hmb : min z.length 65536 ≤ 65536 := Nat.min_le_right _ _
      simp (maxSteps := 1000000) (disch := first | omega | (simp only [sizeAlloc, sizeDrew, sizeSet, sizePut] <;> omega) | fail) only [GS, TT_eq, TTl, Nat.reduceAdd, Nat.reduceMul, Nat.reduceSub, Nat.reduceDiv, Nat.reduceMod, Nat.reducePow, Nat.reduceEqDiff, ↓reduceIte, reduceCtorEq, Int.reduceToNat, Int.reduceAdd, Int.reduceSub, Int.reduceMul, f1, hmin]
      refine ⟨⟨k + 1, s + min z.length 65536, by omega, by omega, by omega, ?_, by simp⟩, by omega⟩
      intro h6
      rw [htk, sumL_app]
      have := hsm (by omega)
      have h1 : sumL [z] = z.length := by simp [sumL]
      omega
    · by_cases h40 : 40 < xs.length
      · simp (maxSteps := 1000000) (disch := first | omega | (simp only [sizeAlloc, sizeDrew, sizeSet, sizePut] <;> omega) | fail) only [GS, TT_eq, TTl, Nat.reduceAdd, Nat.reduceMul, Nat.reduceSub, Nat.reduceDiv, Nat.reduceMod, Nat.reducePow, Nat.reduceEqDiff, ↓reduceIte, reduceCtorEq, Int.reduceToNat, Int.reduceAdd, Int.reduceSub, Int.reduceMul]
        exact hR _ (by simp)
      · omega
  · have e : k = xs.length := by omega
    subst e
    rw [List.take_length] at hsm
    by_cases h40 : 40 < xs.length
    · simp (maxSteps := 1000000) (disch := first | omega | (simp only [sizeAlloc, sizeDrew, sizeSet, sizePut] <;> omega) | fail) only [GS, TT_eq, TTl, Nat.reduceAdd, Nat.reduceMul, Nat.reduceSub, Nat.reduceDiv, Nat.reduceMod, Nat.reducePow, Nat.reduceEqDiff, ↓reduceIte, reduceCtorEq, Int.reduceToNat, Int.reduceAdd, Int.reduceSub, Int.reduceMul]
      exact hR _ (by simp)
    · by_cases h6 : 6000 < s
      · simp (maxSteps := 1000000) (disch := first | omega | (simp only [sizeAlloc, sizeDrew, sizeSet, sizePut] <;> omega) | fail) only [GS, TT_eq, TTl, Nat.reduceAdd, Nat.reduceMul, Nat.reduceSub, Nat.reduceDiv, Nat.reduceMod, Nat.reducePow, Nat.reduceEqDiff, ↓reduceIte, reduceCtorEq, Int.reduceToNat, Int.reduceAdd, Int.reduceSub, Int.reduceMul]
        exact hR _ (by simp)
      · simp (maxSteps := 1000000) (disch := first | omega | (simp only [sizeAlloc, sizeDrew, sizeSet, sizePut] <;> omega) | fail) only [GS, TT_eq, TTl, Nat.reduceAdd, Nat.reduceMul, Nat.reduceSub, Nat.reduceDiv, Nat.reduceMod, Nat.reducePow, Nat.reduceEqDiff, ↓reduceIte, reduceCtorEq, Int.reduceToNat, Int.reduceAdd, Int.reduceSub, Int.reduceMul]
        exact hR _ (fun _ => ⟨by omega, by have := hsm (by omega); omega⟩)
end Go.Proofs.Ytgopgonkchlkfaa
