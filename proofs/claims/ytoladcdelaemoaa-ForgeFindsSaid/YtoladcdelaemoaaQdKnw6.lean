/-
  How much a statement looks at; who has seen some terms (walks).
-/
import Derived.Test.YtoladcdelaemoaaQdKnw5
import Derived.Test.YtoladcdelaemoaaQdFsd1
set_option linter.unusedSimpArgs false
set_option linter.unusedVariables false
set_option maxRecDepth 20000
namespace Go.Proofs.Ytoladcdelaemoaa
open Go Go.Wk Go.RowKit
attribute [local irreducible] go Hold
open Go.Lib
def sumL (l : List Tm) : Nat := (l.map List.length).sum
theorem sumL_cons (x : Tm) (l : List Tm) : sumL (x :: l) = x.length + sumL l := by simp [sumL]
theorem sumL_app (l m : List Tm) : sumL (l ++ m) = sumL l + sumL m := by simp [sumL]
theorem sumL_ok : ∀ l : List Tm, sumL (okL l) ≤ sumL l
  | [] => Nat.le_refl _
  | x :: l => by
    have ih := sumL_ok l
    unfold okL at ih ⊢
    rw [List.filter_cons]
    split
    · rw [sumL_cons, sumL_cons]; omega
    · rw [sumL_cons]; omega
theorem sumL_take (l : List Tm) (k : Nat) : sumL (l.take k) ≤ sumL l := by
  have h : sumL l = sumL (l.take k) + sumL (l.drop k) := by rw [← sumL_app, List.take_append_drop]
  omega
theorem KnIs.small {S : List Tm} {E : List Ent} (h : KnIs S E) (hS : ∀ s ∈ S, checkS s = 0) : 3 * E.length ≤ sumL S := by
  have h1 := h.num hS
  have h2 := flatW hS
  unfold sumL
  omega
theorem okL_app (l m : List Tm) : okL (l ++ m) = okL l ++ okL m := by unfold okL; exact List.filter_append ..
theorem okL_one {t : Tm} (h : checkS t = 0) : okL [t] = [t] := by unfold okL; simp [h]
theorem okL_no {t : Tm} (h : checkS t ≠ 0) : okL [t] = [] := by unfold okL; simp [h]
set_option maxHeartbeats 2000000 in
theorem Long10s_cps (sa : Value) (xs : List (List UInt8)) (w : World) (R : Ending → World → Prop) (hx : xs.length ≤ 9223372036854775807) (hxs : ∀ s ∈ xs, s.length ≤ maxLen) (ha : Rd w 1 sa xs.length (xs.map strV))
    (hR : ∀ b : Bool, (b = false → xs.length ≤ 40 ∧ sumL xs ≤ 6000) → R (.returned (.bool b)) w) : Calls Try.prog 8 #[sa] w R := by
  obtain ⟨a, ca, rfl⟩ := ha.slice
  refine calls_go 4000 okT Try.func8 rfl (rs := [.tmp 2]) rfl Try.ntmps8 (args := [.slice a xs.length ca]) ?_
  simp (maxSteps := 1000000) (disch := first | omega | (simp only [sizeAlloc, sizeDrew, sizeSet, sizePut] <;> omega) | fail) only [GS, TT_eq, TTl, Nat.reduceAdd, Nat.reduceMul, Nat.reduceSub, Nat.reduceDiv, Nat.reduceMod, Nat.reducePow, Nat.reduceEqDiff, ↓reduceIte, reduceCtorEq, Int.reduceToNat, Int.reduceAdd, Int.reduceSub, Int.reduceMul]
  refine hold_loop okT (rs := [.tmp 2]) rfl [3, 4] [5, 6, 7, 8, 9, 10, 11, 12, 13, 14, 15, 16, 17, 18, 19, 20, 21, 22] (fun vs w' => ∃ k s : Nat, k ≤ xs.length ∧ k ≤ 60 ∧ s ≤ k * 65536 ∧ (s ≤ 6000 → sumL (xs.take k) ≤ s) ∧ vs = [.int .i64 s, .int .i64 k] ∧ w' = w) (fun vs _ => match vs with | [_, .int _ i] => 60 - i.toNat | _ => 0) (by kernel_rfl) ⟨0, 0, by omega, by omega, by omega, by simp [sumL], rfl, rfl⟩ ?_
  rintro vs w' J ⟨k, s, hk, hk60, hs, hsm, rfl, rfl⟩
  by_cases hlt : k < xs.length
  · by_cases h60 : k < 60
    · obtain ⟨b1, o1, c1, e1, _, g1⟩ := ha.at (by omega) (by omega)
      have f1 := g1 k _ (getS hlt)
      rw [Value.slice.injEq] at e1
      obtain ⟨rfl, -, -⟩ := e1
      have hml := hxs _ (List.getElem_mem hlt)
      unfold maxLen at hml
      have htk := List.take_succ_eq_append_getElem hlt
      generalize xs[k] = z at f1 hml htk
      have hmin : min ((z.length : Nat) : Int) 65536 = ((min z.length 65536 : Nat) : Int) := by omega
      have hmb : min z.length 65536 ≤ 65536 := Nat.min_le_right _ _
      simp (maxSteps := 1000000) (disch := first | omega | (simp only [sizeAlloc, sizeDrew, sizeSet, sizePut] <;> omega) | fail) only [GS, TT_eq, TTl, Nat.reduceAdd, Nat.reduceMul, Nat.reduceSub, Nat.reduceDiv, Nat.reduceMod, Nat.reducePow, Nat.reduceEqDiff, ↓reduceIte, reduceCtorEq, Int.reduceToNat, Int.reduceAdd, Int.reduceSub, Int.reduceMul, f1, hmin]
      refine ⟨⟨k + 1, s + min z.length 65536, by omega, by omega, by omega, ?_, by simp⟩, by omega⟩
      intro h6
      rw [htk, sumL_app]
      have := hsm (by omega)
      have h1 : sumL [z] = z.length := by simp [sumL]
      omega
    · by_cases h40 : 40 < xs.length
      · simp (maxSteps := 1000000) (disch := first | omega | (simp only [sizeAlloc, sizeDrew, sizeSet, sizePut] <;> omega) | fail) only [GS, TT_eq, TTl, Nat.reduceAdd, Nat.reduceMul, Nat.reduceSub, Nat.reduceDiv, Nat.reduceMod, Nat.reducePow, Nat.reduceEqDiff, ↓reduceIte, reduceCtorEq, Int.reduceToNat, Int.reduceAdd, Int.reduceSub, Int.reduceMul]
        exact hR _ (by simp)
      · omega
  · have e : k = xs.length := by omega
    subst e
    rw [List.take_length] at hsm
    by_cases h40 : 40 < xs.length
    · simp (maxSteps := 1000000) (disch := first | omega | (simp only [sizeAlloc, sizeDrew, sizeSet, sizePut] <;> omega) | fail) only [GS, TT_eq, TTl, Nat.reduceAdd, Nat.reduceMul, Nat.reduceSub, Nat.reduceDiv, Nat.reduceMod, Nat.reducePow, Nat.reduceEqDiff, ↓reduceIte, reduceCtorEq, Int.reduceToNat, Int.reduceAdd, Int.reduceSub, Int.reduceMul]
      exact hR _ (by simp)
    · by_cases h6 : 6000 < s
      · simp (maxSteps := 1000000) (disch := first | omega | (simp only [sizeAlloc, sizeDrew, sizeSet, sizePut] <;> omega) | fail) only [GS, TT_eq, TTl, Nat.reduceAdd, Nat.reduceMul, Nat.reduceSub, Nat.reduceDiv, Nat.reduceMod, Nat.reducePow, Nat.reduceEqDiff, ↓reduceIte, reduceCtorEq, Int.reduceToNat, Int.reduceAdd, Int.reduceSub, Int.reduceMul]
        exact hR _ (by simp)
      · simp (maxSteps := 1000000) (disch := first | omega | (simp only [sizeAlloc, sizeDrew, sizeSet, sizePut] <;> omega) | fail) only [GS, TT_eq, TTl, Nat.reduceAdd, Nat.reduceMul, Nat.reduceSub, Nat.reduceDiv, Nat.reduceMod, Nat.reducePow, Nat.reduceEqDiff, ↓reduceIte, reduceCtorEq, Int.reduceToNat, Int.reduceAdd, Int.reduceSub, Int.reduceMul]
        exact hR _ (fun _ => ⟨by omega, by have := hsm (by omega); omega⟩)
set_option maxHeartbeats 4000000 in
theorem knows_cps (sa : Value) (xs : List (List UInt8)) (w : World) (R : Ending → World → Prop) (hx : xs.length ≤ 9223372036854775807) (hxs : ∀ s ∈ xs, s.length ≤ maxLen) (ha : Rd w 1 sa xs.length (xs.map strV)) (hsum : sumL xs ≤ 6000)
    (hR : ∀ w' kp mr E, KnIs (okL xs) E → FinE E → KnAt w' kp mr E → Mod [] w w' → R (.returned (.pointer (some ⟨kp, 0, none⟩))) w') : Calls Try.prog 10 #[sa] w R := by
  obtain ⟨a, ca, rfl⟩ := ha.slice
  refine calls_go 4000 okT Try.func10 rfl (rs := [.tmp 2]) rfl Try.ntmps10 (args := [.slice a xs.length ca]) ?_
  simp (maxSteps := 1000000) (disch := first | omega | (simp only [sizeAlloc, sizeDrew, sizeSet, sizePut] <;> omega) | fail) only [GS, TT_eq, TTl, Nat.reduceAdd, Nat.reduceMul, Nat.reduceSub, Nat.reduceDiv, Nat.reduceMod, Nat.reducePow, Nat.reduceEqDiff, ↓reduceIte, reduceCtorEq, Int.reduceToNat, Int.reduceAdd, Int.reduceSub, Int.reduceMul]
  refine ⟨fok33, new_cps w _ fun w1 kp mr hK1 hkp hmr hM1 => .inl ⟨_, rfl, hold_ops okT (rs := [.tmp 2]) rfl ?_⟩⟩
  simp (maxSteps := 1000000) (disch := first | omega | (simp only [sizeAlloc, sizeDrew, sizeSet, sizePut] <;> omega) | fail) only [GS, TT_eq, TTl, Nat.reduceAdd, Nat.reduceMul, Nat.reduceSub, Nat.reduceDiv, Nat.reduceMod, Nat.reducePow, Nat.reduceEqDiff, ↓reduceIte, reduceCtorEq, Int.reduceToNat, Int.reduceAdd, Int.reduceSub, Int.reduceMul]
  refine hold_loop okT (rs := [.tmp 2]) rfl [4] [2, 6, 7, 8, 9, 10, 11, 12, 13, 14, 15, 16, 17, 18, 19, 20, 21, 22] (fun vs w' => ∃ (k mr : Nat) (E : List Ent), k ≤ xs.length ∧ vs = [.int .i64 k] ∧ KnIs (okL (xs.take k)) E ∧ FinE E ∧ KnAt w' kp mr E ∧ Mod [] w w') (fun vs _ => match vs with | [.int _ i] => xs.length - i.toNat | _ => 0) (by kernel_rfl) ⟨0, mr, [], by omega, rfl, KnIs.nil, Fin.nil, hK1, hM1⟩ ?_
  rintro vs w2 J ⟨k, mr2, E, hk, rfl, hI, hF, hK, hM⟩
  by_cases hlt : k < xs.length
  · obtain ⟨b1, o1, c1, e1, _, g1⟩ := (ha.mod hM (by simp)).at (by omega) (by omega)
    have f1 := g1 k _ (getS hlt)
    rw [Value.slice.injEq] at e1
    obtain ⟨rfl, -, -⟩ := e1
    have htk := List.take_succ_eq_append_getElem hlt
    have hzl := hxs _ (List.getElem_mem hlt)
    have hs1 := sumL_take xs (k + 1)
    rw [htk] at hs1
    generalize xs[k] = z at *
    simp (maxSteps := 1000000) (disch := first | omega | (simp only [sizeAlloc, sizeDrew, sizeSet, sizePut] <;> omega) | fail) only [GS, TT_eq, TTl, Nat.reduceAdd, Nat.reduceMul, Nat.reduceSub, Nat.reduceDiv, Nat.reduceMod, Nat.reducePow, Nat.reduceEqDiff, ↓reduceIte, reduceCtorEq, Int.reduceToNat, Int.reduceAdd, Int.reduceSub, Int.reduceMul, f1]
    refine ⟨fok34, learn_cps _ (okL_ok _) E hI hF z hzl kp mr2 w2 hK _ (fun hc w3 hM3 => ?_) (fun hc E3 mr3 w3 hI3 hF3 _ hK3 _ hM3 => ?_) (fun hc E3 w3 hI3 hn3 hM3 => ?_)⟩
    · refine .inl ⟨_, rfl, hold_ops okT (rs := [.tmp 2]) rfl ?_⟩
      simp (maxSteps := 1000000) (disch := first | omega | (simp only [sizeAlloc, sizeDrew, sizeSet, sizePut] <;> omega) | fail) only [GS, TT_eq, TTl, Nat.reduceAdd, Nat.reduceMul, Nat.reduceSub, Nat.reduceDiv, Nat.reduceMod, Nat.reducePow, Nat.reduceEqDiff, ↓reduceIte, reduceCtorEq, Int.reduceToNat, Int.reduceAdd, Int.reduceSub, Int.reduceMul]
      refine ⟨⟨k + 1, mr2, E, by omega, rfl, ?_, hF, hK.mod0 hM3, hM.trans hM3 (by simp)⟩, by omega⟩
      rw [htk, okL_app, okL_no hc, List.append_nil]
      exact hI
    · refine .inl ⟨_, rfl, hold_ops okT (rs := [.tmp 2]) rfl ?_⟩
      simp (maxSteps := 1000000) (disch := first | omega | (simp only [sizeAlloc, sizeDrew, sizeSet, sizePut] <;> omega) | fail) only [GS, TT_eq, TTl, Nat.reduceAdd, Nat.reduceMul, Nat.reduceSub, Nat.reduceDiv, Nat.reduceMod, Nat.reducePow, Nat.reduceEqDiff, ↓reduceIte, reduceCtorEq, Int.reduceToNat, Int.reduceAdd, Int.reduceSub, Int.reduceMul]
      refine ⟨⟨k + 1, mr3, E3, by omega, rfl, ?_, hF3, hK3, hM.trans hM3 (by intro y hy; simp only [List.mem_singleton] at hy; subst hy; exact .inr hkp)⟩, by omega⟩
      rw [htk, okL_app, okL_one hc]
      exact hI3
    · exfalso
      have hok : ∀ s ∈ okL (xs.take k) ++ [z], checkS s = 0 := by intro s hs; rcases List.mem_append.1 hs with h | h; exact okL_ok _ s h; simp only [List.mem_singleton] at h; rw [h]; exact hc
      have h1 := hI3.small hok
      have h2 := sumL_ok (xs.take k)
      rw [sumL_app] at h1 hs1
      omega
  · have e : k = xs.length := by omega
    subst e
    rw [List.take_length] at hI
    simp (maxSteps := 1000000) (disch := first | omega | (simp only [sizeAlloc, sizeDrew, sizeSet, sizePut] <;> omega) | fail) only [GS, TT_eq, TTl, Nat.reduceAdd, Nat.reduceMul, Nat.reduceSub, Nat.reduceDiv, Nat.reduceMod, Nat.reducePow, Nat.reduceEqDiff, ↓reduceIte, reduceCtorEq, Int.reduceToNat, Int.reduceAdd, Int.reduceSub, Int.reduceMul]
    exact hR _ kp mr2 E hI hF hK hM
end Go.Proofs.Ytoladcdelaemoaa
